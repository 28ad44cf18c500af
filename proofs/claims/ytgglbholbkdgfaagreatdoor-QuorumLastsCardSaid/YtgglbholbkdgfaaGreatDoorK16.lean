/- Joined texts: B82 B83. Each has its own head. -/
import Derived.Test.YtgglbholbkdgfaaGreatDoorK15
import Derived.Test.YtgglbholbkdgfaaGreatDoorK12
import Derived.Test.YtgglbholbkdgfaaGreatDoorK14
set_option linter.unusedVariables false
set_option linter.unusedSimpArgs false
namespace Go.Proofs.YtgglbholbkdgfaaGreatDoor
open Go.RowKit
theorem chain_len : ∀ {n : Nat} {ps : List PSeg} {m : Nat}, Chain n ps m → m = n + ((ps.map (·.es)).flatten).length
 | n, [], m, h => by have h1 : n = m := h; simp [h1]
 | n, p :: ps, m, h => by
  have := chain_len h.2.2
  simp only [List.map_cons, List.flatten_cons, List.length_append]
  omega
theorem LogGet_at (L d : Nat) (FL : Nat → Prop) (sv : Value) (rs : List RSeg) (m : Nat) (ps : List PSeg) (log : List (Nat × List UInt8)) (w : World) (l1 : LogAt w L d FL logPre sv rs m) (l2 : rs.map (·.p) = ps) (hcoh : (ps.map (·.es)).flatten = log.map entB)
  (k et : Nat) (ed : List UInt8) (he : log[k]? = some (et, ed)) (hed : ed.length ≤ 1000000) :
  Calls Tryz.prog 40 #[.pointer (some ⟨L, 0, none⟩), .int .i64 ((1 + k : Nat) : Int)] w fun e w' => ∃ v, e = .returned (.tuple #[v, .int .i64 0]) ∧ Own w' 5 1 v (bytesV (entB (et, ed))) ∧ Fresh w v ∧ Ext NoB w w' := by
 have hch := l1.chain
 rw [l2] at hch
 have hil := (List.getElem?_eq_some_iff.1 he).1
 have hlen := chain_len hch
 rw [hcoh, List.length_map] at hlen
 obtain ⟨j, p, hj, hp1, hp2, hp3⟩ := chain_find (i := 1 + k) hch (by omega) (by omega)
 rw [hcoh, List.getElem?_map, show 1 + k - 1 = k by omega, he] at hp3
 rw [← l2, List.getElem?_map] at hj
 obtain ⟨rr, hrr, rfl⟩ := Option.map_eq_some_iff.1 hj
 refine Get_seg L d FL logPre sv rs m w l1 (1 + k) j rr hrr hp1 hp2 (entB (et, ed)) hp3 ?_
 show (uv et ++ ed).length < _
 rw [List.length_append]
 have := uv_length et
 omega
set_option maxRecDepth 100000 in
set_option maxHeartbeats 16000000 in
theorem Open_canon (id n d : Nat) (F : Nat → Prop) (D : PDisk) (draw : Int) (t : Nat) (v : Int) (ps : List PSeg) (m : Nat) (log : List (Nat × List UInt8)) (w : World) (hd : DiskIs w d F D) (hp : D.files.Perm (canon (some (t, v)) ps)) (hc : Chain 1 ps m) (hm : m ≤ 100)
  (hcoh : (ps.map (·.es)).flatten = log.map entB) (hok : ∀ e ∈ log, e.1 ≤ 1099511627776 ∧ e.2.length ≤ 1000000) (hid : id < n) (hn : n = 1 ∨ n = 3 ∨ n = 5) (ht : t ≤ 1099511627776) (hv : -1 ≤ v ∧ v < n) :
  Calls Tryz.prog 16 #[.int .i64 id, .int .i64 n, .pointer (some ⟨d, 0, none⟩), .int .i64 draw] w fun e w' => ∃ r, e = .returned (.tuple #[.pointer (some ⟨r, 0, none⟩), .int .i64 0]) ∧ Ext F w w' ∧
   RaftIs w' r d (Gr F w w') { savedNode id n draw t v with log := log } D.room true := by
 have hz := zeroNode
 have hzr := fun (w : World) => (show (zeroValue 97).run Tryz.prog w = .ok (.agg #[.slice none 0 0, .bool false]) w by kernel_rfl)
 obtain ⟨q, hq⟩ : ∃ q : Nat, v + 1 = (q : Int) := ⟨(v + 1).toNat, by omega⟩
 obtain ⟨bl, hbl⟩ : ∃ bl, termB t v = bl := ⟨_, rfl⟩
 have hbq : bl = uv t ++ (uv q ++ []) := by
  rw [← hbl, List.append_nil]
  unfold termB
  rw [hq]
  rfl
 have hll : bl.length ≤ 20 := by rw [← hbl]; exact termB_len t v
 have hfg : fsGet D.files termName = some ⟨enc bl, (enc bl).length⟩ := by
  refine (fsGet_mem ((nm_perm hp).nodup_iff.2 (nodup_canon hd hp))).2 (hp.mem_iff.2 ?_)
  unfold canon
  rw [← hbl]
  exact List.mem_append_left _ (by simp [termFs, whole])
 have hload := Lib.hid (fun (w' : World) (x : Ext NoB w w') => Load_ok d F D termName w' (hd.no x) bl (enc bl).length (by omega) hfg)
 have hmlen : m = log.length + 1 := by
  have := chain_len hc
  rw [hcoh, List.length_map] at this
  omega
 have hes : ∀ p ∈ ps, ∀ e ∈ p.es, e.length ≤ 1048566 := fun p hp e he => by
  have h1 : e ∈ (ps.map (·.es)).flatten := List.mem_flatten.2 ⟨p.es, List.mem_map.2 ⟨p, hp, rfl⟩, he⟩
  rw [hcoh] at h1
  obtain ⟨x, hx, rfl⟩ := List.mem_map.1 h1
  show (uv x.1 ++ x.2).length ≤ _
  rw [List.length_append]
  have := uv_length x.1
  have := (hok x hx).2
  omega
 have hopen := Lib.hid (fun (w' : World) (x : Ext NoB w w') => LogOpen_any d F D (some (t, v)) ps m w' (hd.no x) hp hc hm hes)
 have hi1 : ¬ ((id : Int) < 0) := by omega
 have hi2 : ¬ ((n : Int) ≤ (id : Int)) := by omega
 have hq1 : IntKind.i64.wrap ((q : Int) - 1) = v := by rw [IntWalk.i64_in _ (by omega)]; omega
 have hvn : ¬ ((n : Int) ≤ v) := by omega
 have hq40 : q ≤ 1099511627776 := by omega
 have HD := Lib.hid hd
 have HI := Lib.hid hid
 have HN := Lib.hid hn
 have Hp := Lib.hid hp
 have Hcoh := Lib.hid hcoh
 have Hok := Lib.hid hok
 have Hmlen := Lib.hid (And.intro hmlen hm)
 have Hbl := Lib.hid hbl
 have Hbq := Lib.hid hbq
 have Hll := Lib.hid hll
 have Hq := Lib.hid hq
 clear hd hid hfg hbl hbq hll hq hp hcoh hok hmlen hes hc hm
 rcases hn with rfl | rfl | rfl
 ·have hi3 : ¬ ((1 : Int) ≤ (id : Int)) := by omega
  have hv3 : ¬ ((1 : Int) ≤ v) := by omega
  go_enter Tryz.func16, Tryz.ntmps16
  go_wp2_with fail
  obtain ⟨w1, r, e1, e2, x1, b1, hs1⟩ := alloc_facts w (.cells #[.int .i64 id, .int .i64 1, .pointer (some ⟨d, 0, none⟩), .pointer none, .slice none 0 0, .int .i64 0, .int .i64 (-1), .int .i64 0, .int .i64 (-1), .int .i64 0, .int .i64 0, .int .i64 0, .int .u8 0,
   .int .i64 0, .int .i64 0, .int .i64 0, .int .i64 0, .int .i64 0, .int .i64 0, .int .i64 0, .int .i64 0, .int .i64 0, .int .i64 0, .bool false] 92)
  rw [e1, e2]
  refine (hload.out w1 x1).mono ?_; rintro e wL ⟨vL, rfl, oL, fL, xL⟩
  obtain ⟨a2, k2, rfl, hn2, hk2⟩ := RdB.shape (l := bl) oL.rd
  have yL := x1.trans xL
  have bL := xL.blk b1 (fun h => h)
  have HbL := Lib.hid bL
  have Hr := Lib.hid e2
  have HoL := Lib.hid oL
  have HyL := Lib.hid yL
  clear e1 e2 b1 hs1 xL oL fL x1 bL yL
  go_wp2_with fail
  obtain ⟨w3, X, q1, q2, x3, b3, hs3⟩ := alloc_facts wL (.cells #[.slice a2 bl.length k2, .bool false] 97)
  rw [q1, q2]
  have r3 : RdB w3 (.slice a2 bl.length k2) bl := (HoL.out.no x3).rd
  have hrX : r ≠ X := by have := lt_of_blk HbL.out; omega
  have hwX : w.heap.size ≤ X := by have := HyL.out.size; omega
  refine (number_ok X t a2 k2 bl (uv q ++ []) w3 b3 r3 Hbq.out ht (by have := Hll.out; omega) hn2).mono ?_
  rintro e w4 ⟨rfl, x4, b4⟩
  obtain ⟨kk, hkk⟩ : ∃ kk, (uv t).length = kk := ⟨_, rfl⟩
  rw [hkk] at b4
  have hkl : kk ≤ bl.length := by rw [Hbq.out, List.length_append]; omega
  have hdrop : bl.drop kk = uv q ++ [] := by rw [Hbq.out, ← hkk, List.drop_left]
  have hoff : Off (fun b => b = X) (.slice a2 bl.length k2) := fun g hg h => by have := HoL.out.lt g hg; omega
  have hln : bl.length - kk = (uv q ++ ([] : List UInt8)).length := by rw [← hdrop, List.length_drop]
  have r4 : RdB w4 (.slice (subA a2 kk k2) (uv q ++ ([] : List UInt8)).length (k2 - kk)) (uv q ++ []) := by
   have h1 : RdB w4 (.slice a2 bl.length k2) bl := Rd.ext r3 x4 hoff
   have h2 := RdB.drop h1 kk hkl hn2
   rw [hdrop, hln] at h2
   exact h2
  rw [hln] at b4
  have hsn : Off (fun b => b = X) (.slice (subA a2 kk k2) (uv q ++ ([] : List UInt8)).length (k2 - kk)) := Off.sub (a := a2) (n := bl.length) (c := k2) hoff kk _ k2 _
  obtain ⟨sa, hsa⟩ : ∃ sa, subA a2 kk k2 = sa := ⟨_, rfl⟩
  obtain ⟨cn, hcn⟩ : ∃ cn, k2 - kk = cn := ⟨_, rfl⟩
  obtain ⟨l2, hl2⟩ : ∃ l2, uv q ++ ([] : List UInt8) = l2 := ⟨_, rfl⟩
  have hnc : l2.length ≤ cn := by rw [← hl2, ← hln, ← hcn]; omega
  have hl2n : l2.length ≤ 10 := by rw [← hl2, List.append_nil]; exact uv_length q
  rw [hsa, hcn, hl2] at r4 b4 hsn
  have bR4 := x4.blk (x3.blk HbL.out (fun h => h)) (show ¬ (r = X) from hrX)
  have Hr4 := Lib.hid r4
  have Hb4 := Lib.hid b4
  have HbR4 := Lib.hid bR4
  have Hl2 := Lib.hid hl2
  have x4w : Ext NoB w w4 := (HyL.out.trans x3).trans' x4 (fun _ _ h => h) (fun b hb h => by omega)
  have Hx4w := Lib.hid x4w
  clear r3 r4 b3 b4 bR4 x4 hdrop hkl hoff hln hkk hsa hcn hl2 q1 q2 x3 hs3 x4w hsn
  go_wp2_with fail
  refine (number_ok X q sa cn l2 [] w4 Hb4.out Hr4.out Hl2.out.symm hq40 (by omega) hnc).mono ?_
  rintro e w5 ⟨rfl, x5, b5⟩
  have hz5 : l2.length - (uv q).length = 0 := by rw [← Hl2.out]; simp
  rw [hz5] at b5
  obtain ⟨sb, hsb⟩ : ∃ sb, subA sa (uv q).length cn = sb := ⟨_, rfl⟩
  obtain ⟨cb, hcb⟩ : ∃ cb, cn - (uv q).length = cb := ⟨_, rfl⟩
  rw [hsb, hcb] at b5
  have bR5 := x5.blk HbR4.out (show ¬ (r = X) from hrX)
  have p5 : w5.cell? ⟨r, 5, none⟩ = some (.int .i64 0) := by rw [cell_of_blk bR5]; rfl
  have p6 : w5.cell? ⟨r, 6, none⟩ = some (.int .i64 (-1)) := by rw [cell_of_blk bR5]; rfl
  have f5 : w5.frozen? ⟨r, 5, none⟩ = false := frozen_of_blk bR5 5
  have f6 : w5.frozen? ⟨r, 6, none⟩ = false := frozen_of_blk bR5 6
  have pX0 : w5.cell? ⟨X, 0, none⟩ = some (.slice sb 0 cb) := by rw [cell_of_blk b5]; rfl
  have pX1 : w5.cell? ⟨X, 1, none⟩ = some (.bool false) := by rw [cell_of_blk b5]; rfl
  have hXr : X ≠ r := fun e => hrX e.symm
  have HbR5 := Lib.hid bR5
  have x5w : Ext NoB w w5 := Hx4w.out.trans' x5 (fun _ _ h => h) (fun b hb h => by omega)
  have Hx5w := Lib.hid x5w
  clear bR5 b5 x5 x5w hsb hcb hz5
  go_wp2_with fail
  have xs6 : Ext (fun b => b = r) w5 ((w5.setCell ⟨r, 5, none⟩ (.int .i64 t)).setCell ⟨r, 6, none⟩ (.int .i64 v)) := ((Ext.refl (fun b => b = r) w5).setCell (p := ⟨r, 5, none⟩) (.inl rfl) _).setCell (p := ⟨r, 6, none⟩) (.inl rfl) _
  have b6 := blk_setCell (blk_setCell HbR5.out 5 (.int .i64 t)) 6 (.int .i64 v)
  generalize ((w5.setCell ⟨r, 5, none⟩ (.int .i64 t)).setCell ⟨r, 6, none⟩ (.int .i64 v)) = w2 at xs6 b6 ⊢
  have hwr0 : w.heap.size = r := Hr.out
  have y2 : Ext NoB w w2 := Hx5w.out.trans' xs6 (fun _ _ h => h) (fun b hb h => by subst h; omega)
  have Hb2 := Lib.hid b6
  clear b6 xs6 p5 p6 f5 f6 pX0 pX1 hwr0
  refine (hopen.out w2 y2).mono ?_; rintro e w3 ⟨L, FL, sv, rs, rfl, l3, hrsp, hFL, x3⟩
  have hL := hFL L l3.self
  have y3 := y2.trans x3
  have b3 := x3.blk Hb2.out (fun h => h)
  have c3 : w3.cell? ⟨r, 3, none⟩ = some (.pointer none) := by rw [cell_of_blk b3]; rfl
  have f3 : w3.frozen? ⟨r, 3, none⟩ = false := frozen_of_blk b3 3
  have hrL : r < L := Nat.lt_of_lt_of_le (lt_of_blk Hb2.out) hL
  have Hb3 := Lib.hid b3
  have Hl3 := Lib.hid l3
  have Hx3 := Lib.hid x3
  have HFL := Lib.hid hFL
  have Hrsp := Lib.hid hrsp
  clear b3 l3 x3 hFL hrsp
  go_wp2_with fail
  have xs4 : Ext (fun b => b = r) w3 (w3.setCell ⟨r, 3, none⟩ (.pointer (some ⟨L, 0, none⟩))) := (Ext.refl (fun b => b = r) w3).setCell (p := ⟨r, 3, none⟩) (.inl rfl) _
  have b4 := blk_setCell Hb3.out 3 (.pointer (some ⟨L, 0, none⟩))
  generalize (w3.setCell ⟨r, 3, none⟩ (.pointer (some ⟨L, 0, none⟩))) = w4 at xs4 b4 ⊢
  have Hxs4 := Lib.hid xs4.size
  have l4 := Hl3.out.ext xs4 (fun b hb h => by have := HFL.out b hb; have := lt_of_blk Hb2.out; omega)
  have hwr : w.heap.size = r := Hr.out
  have y4 : Ext NoB w w4 := by
   refine y3.trans' xs4 (fun _ _ h => h) (fun b hb h => ?_)
   subst h; omega
  have c4 : w4.cell? ⟨r, 3, none⟩ = some (.pointer (some ⟨L, 0, none⟩)) := by rw [cell_of_blk b4]; rfl
  have Hb4 := Lib.hid b4
  have Hl4 := Lib.hid l4
  clear c3 f3 b4 l4 xs4
  refine (Bounds_any L d _ logPre _ rs m w4 Hl4.out).mono ?_; rintro e w5 ⟨rfl, x5⟩
  have y5 := y4.trans x5
  have c5 := x5.cell c4 (fun h => h)
  have hb5 := x5.blk Hb4.out (fun h => h)
  have hl5 := Hl4.out.no x5
  have Hb5 := Lib.hid hb5
  have Hl5 := Lib.hid hl5
  have Hy5 := Lib.hid y5
  have Hy2 := Lib.hid y2
  have hrw2 : r < w2.heap.size := lt_of_blk Hb2.out
  have hw25 : w2.heap.size ≤ w5.heap.size := by have := Hx3.out.size; have := Hxs4.out; have := x5.size; omega
  have Hw25 := Lib.hid (And.intro hrw2 hw25)
  clear c4 c5 hb5 hl5 y5 y2 y3 y4 x5 hL hrL hw25 hrw2
  go_wp2_with fail
  go_loopw [16] (fun i wr => ∃ (k : Nat) (tv : Value), i = .int .i64 ((1 + k : Nat) : Int) ∧ k ≤ log.length ∧ Hid (wr.heap[r]? = some (.cells (nodeArr { savedNode id 1 draw t v with wait := 0, log := log } d L tv) 92 (0, 0))) ∧
   Hid (Own wr 3 1 tv (natsV ((log.take k).map (·.1)))) ∧ Hid (∀ g, tv.ownBlock = some g → w5.heap.size ≤ g) ∧ Hid (Ext (fun b => b = r) w5 wr)) (fun i _ => log.length + 1 - (intOf i).toNat)
  case atStart => exact ⟨0, _, rfl, by omega, Hb5, Lib.hid (Own.nil _ _ _), Lib.hid (fun g hg => by cases hg), Lib.hid (Ext.refl _ _)⟩
  case round =>
   obtain ⟨k, tv, rfl, hk, Hbr, Hot, Hft, HX⟩ := hrel
   have hbr := Hbr.out
   obtain ⟨ta, tc, htv, htn, htc⟩ := Rd.shape Hot.out.rd
   have htl : (natsV ((log.take k).map (·.1))).length = k := by simp only [natsV, List.length_map, List.length_take]; omega
   rw [htl] at htv htn
   have c3 : wr.cell? ⟨r, 3, none⟩ = some (.pointer (some ⟨L, 0, none⟩)) := by rw [cell_of_blk hbr]; rfl
   have c4 : wr.cell? ⟨r, 4, none⟩ = some (.slice ta k tc) := by rw [cell_of_blk hbr, ← htv]; rfl
   have hkm : ((1 + k : Nat) : Int) < (m : Int) ↔ k < log.length := by have := Hmlen.out; omega
   have Htv := Lib.hid (And.intro htv htn)
   have Hk := Lib.hid hk
   clear hbr htl htv htn
   by_cases hlt : k < log.length
   ·obtain ⟨⟨et, ed⟩, he0⟩ : ∃ e, log[k]? = some e := ⟨_, List.getElem?_eq_getElem hlt⟩
    obtain ⟨het, hed⟩ : et ≤ 1099511627776 ∧ ed.length ≤ 1000000 := Hok.out _ (List.mem_of_getElem? he0)
    have hlr := Hl5.out.ext HX.out (fun b hb h => by have := HFL.out b hb; have := Hw25.out; omega)
    have hget := LogGet_at L d FL sv rs m ps log wr hlr Hrsp.out Hcoh.out k et ed he0 (by omega)
    have hi' : ((1 + k : Nat) : Int) < (m : Int) := hkm.2 hlt
    obtain ⟨el, hel⟩ : ∃ el, entB (et, ed) = el := ⟨_, rfl⟩
    have hell : el.length ≤ 1000010 := by rw [← hel]; show (uv et ++ ed).length ≤ _; rw [List.length_append]; have := uv_length et; omega
    rw [hel] at hget
    have Hget := Lib.hid hget
    have Hel := Lib.hid (And.intro hel hell)
    have Het := Lib.hid het
    have He0 := Lib.hid he0
    clear hlr hget hel hell het hed he0 hkm
    go_wp2_with fail
    refine Hget.out.mono ?_; rintro e wa ⟨va, rfl, oa, fa, xa⟩
    obtain ⟨aa, ka, rfl, hna, hka⟩ := RdB.shape (l := el) oa.rd
    have Hoa := Lib.hid oa
    have Hxa := Lib.hid xa
    have c4a := xa.cell c4 (fun h => h)
    have hba := xa.blk Hbr.out (fun h => h)
    have Hba := Lib.hid hba
    clear oa fa xa hba c3 c4
    go_wp2_with fail
    obtain ⟨wb, Y, q1, q2, xb, bb, hsb⟩ := alloc_facts wa (.cells #[.slice aa el.length ka, .bool false] 97)
    rw [q1, q2]
    have hYr : Y ≠ r := by have := lt_of_blk Hba.out; omega
    have c4b := xb.cell c4a (fun h => h)
    have hoY : Off (fun b => b = Y) (.slice aa el.length ka) := fun g hg h => by have := Hoa.out.lt g hg; omega
    have hYw : wr.heap.size ≤ Y := by have := Hxa.out.size; omega
    have Hnum := Lib.hid (fun (w' : World) (x : Ext NoB wb w') => number_ok Y et aa ka el ed w' (x.blk bb (fun h => h)) ((Hoa.out.no xb).no x).rd Hel.out.1.symm Het.out (by have := Hel.out.2; omega) hna)
    have Hbb := Lib.hid (xb.blk Hba.out (fun h => h))
    have HbY := Lib.hid bb
    have HYw := Lib.hid hYw
    have Hxb := Lib.hid (Hxa.out.trans xb)
    clear q1 q2 hsb c4a xb bb hYw hoY
    go_wp2_with fail
    refine wp_region_N (fun w' => w'.cell? ⟨r, 4, none⟩ = some (.slice ta k tc)) 9 (by kernel_rfl) ?_
    have hSd : wb.drew.cell? ⟨r, 4, none⟩ = some (.slice ta k tc) := c4b
    have xbd : Ext NoB wb wb.drew := (Ext.refl _ wb).drew
    generalize wb.drew = wd at hSd xbd ⊢
    refine wpAnyN_free 0 (v := ?_) (by kernel_rfl) rfl (fun _ _ _ h => h) hSd (by rfl) ?_ ?_; rotate_left; (focus (intro w; go_simp; try with_reducible rfl)); (try simp only [Act.put]); (try simp only [List.setIfInBounds_toArray, List.set_cons_zero, List.set_cons_succ])
    refine wpAnyN_free 1 (v := ?_) (by kernel_rfl) rfl (fun _ _ _ h => h) hSd (by rfl) ?_ ?_; rotate_left; (focus (intro w; go_simp; try with_reducible rfl)); (try simp only [Act.put]); (try simp only [List.setIfInBounds_toArray, List.set_cons_zero, List.set_cons_succ])
    refine wpAnyN_free 2 (v := ?_) (by kernel_rfl) rfl (fun _ _ _ h => h) hSd (by rfl) ?_ ?_; rotate_left; (focus (intro w; go_simp; try with_reducible rfl)); (try simp only [Act.put]); (try simp only [List.setIfInBounds_toArray, List.set_cons_zero, List.set_cons_succ])
    refine wpAnyN_free 3 (v := ?_) (by kernel_rfl) rfl (fun _ _ _ h => h) hSd (by rfl) ?_ ?_; rotate_left; (focus (intro w; go_simp; try with_reducible rfl)); (try simp only [Act.put]); (try simp only [List.setIfInBounds_toArray, List.set_cons_zero, List.set_cons_succ])
    refine wpAnyN_take 4 (v := ?_) (by kernel_rfl) rfl (fun _ _ _ h => h) hSd (by rfl) ?_ ?_; rotate_left; (focus (intro w hSw; (try dsimp only at hSw); go_simp; try with_reducible rfl)); (try simp only [Act.put]); (try simp only [List.setIfInBounds_toArray, List.set_cons_zero, List.set_cons_succ])
    refine wpAnyN_free 5 (v := ?_) (by kernel_rfl) rfl (fun _ _ _ h => h) hSd (by rfl) ?_ ?_; rotate_left; (focus (intro w; go_simp; try with_reducible rfl)); (try simp only [Act.put]); (try simp only [List.setIfInBounds_toArray, List.set_cons_zero, List.set_cons_succ])
    refine wpAnyN_one 6 (by kernel_rfl) (by simp only [List.getElem?_toArray, List.getElem?_cons_succ, List.getElem?_cons_zero] <;> rfl) (by rfl) (fun K hK => ?_)
    go_simp
    refine (Hnum.out wd xbd).mono ?_; rintro e we ⟨rfl, xe, be⟩
    have hS2 := xe.cell hSd (show ¬ (r = Y) from fun h => hYr h.symm)
    have cY1 : we.cell? ⟨Y, 1, none⟩ = some (.bool false) := by rw [cell_of_blk be]; rfl
    have bre := xe.blk (xbd.blk Hbb.out (fun h => h)) (show ¬ (r = Y) from fun h => hYr h.symm)
    have Hbre := Lib.hid bre
    have Hxe := Lib.hid (And.intro xbd xe)
    have Hbe := Lib.hid be
    clear bre be xbd xe
    go_wp2_with fail
    refine hK.out _ _ hS2 (fun hSd => ?_)
    clear hK K hSd
    have hSd := hS2
    (try simp only [Act.put]); (try simp only [List.setIfInBounds_toArray, List.set_cons_zero, List.set_cons_succ])
    refine wpAnyN_one 7 (by kernel_rfl) (by simp only [List.getElem?_toArray, List.getElem?_cons_succ, List.getElem?_cons_zero] <;> rfl) (by rfl) (fun K hK => ?_)
    go_simp
    obtain ⟨wf, B6, q1, q2, xf, b6, hs6⟩ := alloc_facts we (.cells #[.int .i64 et] 3)
    rw [q1, q2]
    have hS6 := xf.cell hSd (fun h => h)
    refine hK.out _ _ hS6 (fun hSd => ?_)
    clear hK K hSd q1 q2 hs6
    have hSd := hS6
    (try simp only [Act.put]); (try simp only [List.setIfInBounds_toArray, List.set_cons_zero, List.set_cons_succ])
    refine wpAnyN_one 8 (by kernel_rfl) (by simp only [List.getElem?_toArray, List.getElem?_cons_succ, List.getElem?_cons_zero] <;> rfl) (by rfl) (fun K hK => ?_)
    have hxre : Ext (fun b => b = Y) wr we := ((Hxb.out.of_no).trans (Hxe.out.1.of_no)).trans Hxe.out.2
    have ot : Own wr 3 1 (.slice ta k tc) (natsV ((log.take k).map (·.1))) := by rw [← Htv.out.1]; exact Hot.out
    have oe := ot.ext hxre (fun g hg h => by have := ot.lt g hg; have := HYw.out; omega)
    have of := oe.no xf
    have hlk : (natsV ((log.take k).map (·.1))).length ≤ 100 := by simp only [natsV, List.length_map, List.length_take]; have := Hmlen.out; omega
    refine wp_app _ (.tmp 137) (.tmp 140) 34 34 rfl 3 1 8 unInts' elInt _ of 1 _ (Src.one unInts' B6 _ _ _ b6 rfl) (by simp only [List.length_singleton]; omega) (by decide) ?_
    intro v7 w7 o7 x7 h7
    obtain ⟨tl, htl⟩ : ∃ tl, natsV ((log.take k).map (·.1)) ++ [Value.int .i64 (et : Int)] = tl := ⟨_, rfl⟩
    rw [htl] at o7
    have htl2 : natsV ((log.take (k + 1)).map (·.1)) = tl := by rw [← htl, take_succ_some He0.out]; simp [natsV]
    obtain ⟨a7, n7, c7, rfl, _⟩ := o7.rd
    have brf := xf.blk Hbre.out (fun h => h)
    have hvr : ¬ ((Value.slice ta k tc).ownBlock = some r) := fun hg => of.ne_blk brf (by decide) r hg rfl
    have hvY : ¬ ((Value.slice ta k tc).ownBlock = some Y) := fun hg => of.ne_blk (xf.blk Hbe.out (fun h => h)) (by decide) Y hg rfl
    have hS7 := x7.cell hSd hvr
    have cY7 := x7.cell (xf.cell cY1 (fun h => h)) hvY
    refine hK.out _ _ hS7 (fun hSd => ?_)
    clear hK K hSd
    (try simp only [Act.put]); (try simp only [List.setIfInBounds_toArray, List.set_cons_zero, List.set_cons_succ])
    refine wpAnyN_tail (by rfl) (by decide) (by kernel_rfl) (by kernel_rfl) ?_
    simp only [List.drop_succ_cons, List.drop_zero]
    have br7 := x7.blk brf hvr
    have f7 : w7.frozen? ⟨r, 4, none⟩ = false := frozen_of_blk br7 4
    have Hbr7 := Lib.hid br7
    have Ho7 := Lib.hid o7
    have Htl := Lib.hid htl2
    have Hh7 := Lib.hid h7
    have Hxr7 := Lib.hid (And.intro hxre (And.intro xf x7))
    have Hlt := Lib.hid hlt
    have hw1 : IntKind.i64.wrap (((1 + k : Nat) : Int) + 1) = ((1 + (k + 1) : Nat) : Int) := by rw [IntWalk.i64_in _ (by have := Hmlen.out; omega)]; omega
    have hYr' : Y ≠ r := hYr
    clear br7 o7 htl htl2 h7 hxre xf x7 b6 oe of ot brf hvr hvY cY1 hSd hlk hlt
    go_wp2_with fail
    have xs : Ext (fun b => b = r) w7 (w7.setCell ⟨r, 4, none⟩ (.slice a7 n7 c7)) := (Ext.refl (fun b => b = r) w7).setCell (p := ⟨r, 4, none⟩) (.inl rfl) _
    have kr := blk_setCell Hbr7.out 4 (.slice a7 n7 c7)
    generalize (w7.setCell ⟨r, 4, none⟩ (.slice a7 n7 c7)) = wF at xs kr ⊢
    have sX := HX.out.size
    have s1 := Hxr7.out.1.size
    have s2 := Hxr7.out.2.1.size
    refine ⟨⟨k + 1, .slice a7 n7 c7, by rw [show (1 + (k : Int) + 1) = ((1 + (k + 1) : Nat) : Int) by omega, wrap64_in _ (by have := Hmlen.out; have := Hlt.out; omega)], by have := Hlt.out; omega, Lib.hid kr, Lib.hid ?_, Lib.hid ?_, Lib.hid ?_⟩, ?_⟩
    ·rw [Htl.out]
     exact Ho7.out.ext xs (fun g hg h => Ho7.out.ne_blk Hbr7.out (by decide) g hg h.symm)
    ·intro g hg
     rcases Hh7.out with h | ⟨g', h, h'⟩
     ·exact Hft.out g (by rw [Htv.out.1]; exact h.symm.trans hg)
     ·rw [h] at hg; cases hg; omega
    ·refine ((((HX.out.next Hxr7.out.1 (fun b h hl => by have := HYw.out; omega)).nextNo Hxr7.out.2.1).next Hxr7.out.2.2 (fun g hg hl => ?_))).next xs (fun b h _ => h)
     have := Hft.out g (by rw [Htv.out.1]; exact hg)
     omega
    ·have h1 := Hlt.out
     have h2 := Hmlen.out
     rw [show (1 + (k : Int) + 1) = ((1 + (k + 1) : Nat) : Int) by omega, wrap64_in _ (by omega)]
     show log.length + 1 - (((1 + (k + 1) : Nat) : Int)).toNat < log.length + 1 - (((1 + k : Nat) : Int)).toNat
     omega
   ·obtain rfl : k = log.length := by have := Hk.out; omega
    have hi' : ¬ ((1 + log.length : Nat) : Int) < (m : Int) := fun h => hlt (hkm.1 h)
    have hlr := Hl5.out.ext HX.out (fun b hb h => by have := HFL.out b hb; have := Hw25.out; omega)
    have hNode : NodeIs wr r d (Gr F w wr) { savedNode id 1 draw t v with wait := 0, log := log } D ps := by
     have hx5r := Hy5.out.trans' HX.out (fun _ _ h => h) (fun b hb h => by have := Hr.out; subst h; omega)
     have hd5 := HD.out.no hx5r
     have hlt5 := HD.out.lt
     have hsz := Hy5.out.size
     have hrv := Hr.out
     have h25 := Hw25.out
     have hy2 := Hy2.out.size
     have hot := Hot.out
     rw [List.take_length] at hot
     have hm5 : m = log.length + 1 := Hmlen.out.1
     refine ⟨L, F, FL, (fun b => b = r ∨ (w5.heap.size ≤ b ∧ b < wr.heap.size)), tv, false, ⟨Hbr.out, .inl rfl, hot, fun g hg => .inr ⟨Hft.out g hg, hot.lt g hg⟩, ⟨hd5, ⟨_, _, by rw [← hm5]; exact hlr, Hrsp.out, by simp⟩, ?_⟩, ?_, ?_, ?_, Hcoh.out, ⟨HI.out, Nat.le_of_ble_eq_true rfl⟩, Nat.zero_le _⟩, ?_, ?_⟩
     ·intro b hb h; have := hlt5 _ hb; have := HFL.out b h; omega
     ·intro b hb h; have := hlt5 _ h; rcases hb with hb | hb <;> omega
     ·intro b hb h
      have h1 := HFL.out b h
      have h2 := Hl5.out.lt b h
      rcases hb with hb | hb <;> omega
     ·intro b hb
      rcases hb with hb | hb
      ·subst hb; exact lt_of_blk Hbr.out
      ·exact hb.2
     ·intro b hb
      rcases hb with hb | hb | hb
      ·exact .inl hb
      ·exact .inr ⟨by have := HFL.out b hb; omega, hlr.lt b hb⟩
      ·rcases hb with hb | hb
       ·subst hb; exact .inr ⟨by omega, lt_of_blk Hbr.out⟩
       ·exact .inr ⟨by omega, hb.2⟩
     ·intro b hb
      rcases hb with hb | hb
      ·exact Nat.lt_of_lt_of_le (hlt5 b hb) hx5r.size
      ·exact hb.2
    have Hnode := Lib.hid hNode
    have Hxr : Hid (Ext NoB w wr) := Lib.hid (Hy5.out.trans' HX.out (fun _ _ h => h) (fun b hb h => by have := Hr.out; subst h; omega))
    clear hNode hlr c3 c4 hkm
    go_wp2_with fail
    refine (anew_any r d _ _ _ ps draw wr Hnode.out).mono ?_; rintro e w6 ⟨rfl, x6, n6⟩
    have Hn6 := Lib.hid n6
    have Hx6 := Lib.hid x6
    clear n6 x6
    go_wp2_with fail
    go_ret2
    have hsz := Hx6.out.size
    refine ⟨r, rfl, (Hxr.out.of_no).next Hx6.out (fun b h hb => h.elim (fun k => k) (fun h => by omega)), ⟨D, ps, ?_, rfl, ?_⟩, fun h => (by cases h), (show -1 ≤ v ∧ v ≤ 5 by omega), ht⟩
    obtain ⟨L', FD, FL', FR, tv', dl, h1, h2, h3⟩ := Hn6.out
    refine ⟨L', FD, FL', FR, tv', dl, h1, fun b hb => ?_, fun b hb => ?_⟩
    ·rcases h2 b hb with h | h
     ·exact .inl h
     ·exact .inr (by omega)
    ·rcases hb with hb | hb
     ·exact h3 b (.inl hb)
     ·exact hb.2
    ·exact Hp.out
 ·have hi3 : ¬ ((3 : Int) ≤ (id : Int)) := by omega
  have hv3 : ¬ ((3 : Int) ≤ v) := by omega
  go_enter Tryz.func16, Tryz.ntmps16
  go_wp2_with fail
  obtain ⟨w1, r, e1, e2, x1, b1, hs1⟩ := alloc_facts w (.cells #[.int .i64 id, .int .i64 3, .pointer (some ⟨d, 0, none⟩), .pointer none, .slice none 0 0, .int .i64 0, .int .i64 (-1), .int .i64 0, .int .i64 (-1), .int .i64 0, .int .i64 0, .int .i64 0, .int .u8 0,
   .int .i64 0, .int .i64 0, .int .i64 0, .int .i64 0, .int .i64 0, .int .i64 0, .int .i64 0, .int .i64 0, .int .i64 0, .int .i64 0, .bool false] 92)
  rw [e1, e2]
  refine (hload.out w1 x1).mono ?_; rintro e wL ⟨vL, rfl, oL, fL, xL⟩
  obtain ⟨a2, k2, rfl, hn2, hk2⟩ := RdB.shape (l := bl) oL.rd
  have yL := x1.trans xL
  have bL := xL.blk b1 (fun h => h)
  have HbL := Lib.hid bL
  have Hr := Lib.hid e2
  have HoL := Lib.hid oL
  have HyL := Lib.hid yL
  clear e1 e2 b1 hs1 xL oL fL x1 bL yL
  go_wp2_with fail
  obtain ⟨w3, X, q1, q2, x3, b3, hs3⟩ := alloc_facts wL (.cells #[.slice a2 bl.length k2, .bool false] 97)
  rw [q1, q2]
  have r3 : RdB w3 (.slice a2 bl.length k2) bl := (HoL.out.no x3).rd
  have hrX : r ≠ X := by have := lt_of_blk HbL.out; omega
  have hwX : w.heap.size ≤ X := by have := HyL.out.size; omega
  refine (number_ok X t a2 k2 bl (uv q ++ []) w3 b3 r3 Hbq.out ht (by have := Hll.out; omega) hn2).mono ?_
  rintro e w4 ⟨rfl, x4, b4⟩
  obtain ⟨kk, hkk⟩ : ∃ kk, (uv t).length = kk := ⟨_, rfl⟩
  rw [hkk] at b4
  have hkl : kk ≤ bl.length := by rw [Hbq.out, List.length_append]; omega
  have hdrop : bl.drop kk = uv q ++ [] := by rw [Hbq.out, ← hkk, List.drop_left]
  have hoff : Off (fun b => b = X) (.slice a2 bl.length k2) := fun g hg h => by have := HoL.out.lt g hg; omega
  have hln : bl.length - kk = (uv q ++ ([] : List UInt8)).length := by rw [← hdrop, List.length_drop]
  have r4 : RdB w4 (.slice (subA a2 kk k2) (uv q ++ ([] : List UInt8)).length (k2 - kk)) (uv q ++ []) := by
   have h1 : RdB w4 (.slice a2 bl.length k2) bl := Rd.ext r3 x4 hoff
   have h2 := RdB.drop h1 kk hkl hn2
   rw [hdrop, hln] at h2
   exact h2
  rw [hln] at b4
  have hsn : Off (fun b => b = X) (.slice (subA a2 kk k2) (uv q ++ ([] : List UInt8)).length (k2 - kk)) := Off.sub (a := a2) (n := bl.length) (c := k2) hoff kk _ k2 _
  obtain ⟨sa, hsa⟩ : ∃ sa, subA a2 kk k2 = sa := ⟨_, rfl⟩
  obtain ⟨cn, hcn⟩ : ∃ cn, k2 - kk = cn := ⟨_, rfl⟩
  obtain ⟨l2, hl2⟩ : ∃ l2, uv q ++ ([] : List UInt8) = l2 := ⟨_, rfl⟩
  have hnc : l2.length ≤ cn := by rw [← hl2, ← hln, ← hcn]; omega
  have hl2n : l2.length ≤ 10 := by rw [← hl2, List.append_nil]; exact uv_length q
  rw [hsa, hcn, hl2] at r4 b4 hsn
  have bR4 := x4.blk (x3.blk HbL.out (fun h => h)) (show ¬ (r = X) from hrX)
  have Hr4 := Lib.hid r4
  have Hb4 := Lib.hid b4
  have HbR4 := Lib.hid bR4
  have Hl2 := Lib.hid hl2
  have x4w : Ext NoB w w4 := (HyL.out.trans x3).trans' x4 (fun _ _ h => h) (fun b hb h => by omega)
  have Hx4w := Lib.hid x4w
  clear r3 r4 b3 b4 bR4 x4 hdrop hkl hoff hln hkk hsa hcn hl2 q1 q2 x3 hs3 x4w hsn
  go_wp2_with fail
  refine (number_ok X q sa cn l2 [] w4 Hb4.out Hr4.out Hl2.out.symm hq40 (by omega) hnc).mono ?_
  rintro e w5 ⟨rfl, x5, b5⟩
  have hz5 : l2.length - (uv q).length = 0 := by rw [← Hl2.out]; simp
  rw [hz5] at b5
  obtain ⟨sb, hsb⟩ : ∃ sb, subA sa (uv q).length cn = sb := ⟨_, rfl⟩
  obtain ⟨cb, hcb⟩ : ∃ cb, cn - (uv q).length = cb := ⟨_, rfl⟩
  rw [hsb, hcb] at b5
  have bR5 := x5.blk HbR4.out (show ¬ (r = X) from hrX)
  have p5 : w5.cell? ⟨r, 5, none⟩ = some (.int .i64 0) := by rw [cell_of_blk bR5]; rfl
  have p6 : w5.cell? ⟨r, 6, none⟩ = some (.int .i64 (-1)) := by rw [cell_of_blk bR5]; rfl
  have f5 : w5.frozen? ⟨r, 5, none⟩ = false := frozen_of_blk bR5 5
  have f6 : w5.frozen? ⟨r, 6, none⟩ = false := frozen_of_blk bR5 6
  have pX0 : w5.cell? ⟨X, 0, none⟩ = some (.slice sb 0 cb) := by rw [cell_of_blk b5]; rfl
  have pX1 : w5.cell? ⟨X, 1, none⟩ = some (.bool false) := by rw [cell_of_blk b5]; rfl
  have hXr : X ≠ r := fun e => hrX e.symm
  have HbR5 := Lib.hid bR5
  have x5w : Ext NoB w w5 := Hx4w.out.trans' x5 (fun _ _ h => h) (fun b hb h => by omega)
  have Hx5w := Lib.hid x5w
  clear bR5 b5 x5 x5w hsb hcb hz5
  go_wp2_with fail
  have xs6 : Ext (fun b => b = r) w5 ((w5.setCell ⟨r, 5, none⟩ (.int .i64 t)).setCell ⟨r, 6, none⟩ (.int .i64 v)) := ((Ext.refl (fun b => b = r) w5).setCell (p := ⟨r, 5, none⟩) (.inl rfl) _).setCell (p := ⟨r, 6, none⟩) (.inl rfl) _
  have b6 := blk_setCell (blk_setCell HbR5.out 5 (.int .i64 t)) 6 (.int .i64 v)
  generalize ((w5.setCell ⟨r, 5, none⟩ (.int .i64 t)).setCell ⟨r, 6, none⟩ (.int .i64 v)) = w2 at xs6 b6 ⊢
  have hwr0 : w.heap.size = r := Hr.out
  have y2 : Ext NoB w w2 := Hx5w.out.trans' xs6 (fun _ _ h => h) (fun b hb h => by subst h; omega)
  have Hb2 := Lib.hid b6
  clear b6 xs6 p5 p6 f5 f6 pX0 pX1 hwr0
  refine (hopen.out w2 y2).mono ?_; rintro e w3 ⟨L, FL, sv, rs, rfl, l3, hrsp, hFL, x3⟩
  have hL := hFL L l3.self
  have y3 := y2.trans x3
  have b3 := x3.blk Hb2.out (fun h => h)
  have c3 : w3.cell? ⟨r, 3, none⟩ = some (.pointer none) := by rw [cell_of_blk b3]; rfl
  have f3 : w3.frozen? ⟨r, 3, none⟩ = false := frozen_of_blk b3 3
  have hrL : r < L := Nat.lt_of_lt_of_le (lt_of_blk Hb2.out) hL
  have Hb3 := Lib.hid b3
  have Hl3 := Lib.hid l3
  have Hx3 := Lib.hid x3
  have HFL := Lib.hid hFL
  have Hrsp := Lib.hid hrsp
  clear b3 l3 x3 hFL hrsp
  go_wp2_with fail
  have xs4 : Ext (fun b => b = r) w3 (w3.setCell ⟨r, 3, none⟩ (.pointer (some ⟨L, 0, none⟩))) := (Ext.refl (fun b => b = r) w3).setCell (p := ⟨r, 3, none⟩) (.inl rfl) _
  have b4 := blk_setCell Hb3.out 3 (.pointer (some ⟨L, 0, none⟩))
  generalize (w3.setCell ⟨r, 3, none⟩ (.pointer (some ⟨L, 0, none⟩))) = w4 at xs4 b4 ⊢
  have Hxs4 := Lib.hid xs4.size
  have l4 := Hl3.out.ext xs4 (fun b hb h => by have := HFL.out b hb; have := lt_of_blk Hb2.out; omega)
  have hwr : w.heap.size = r := Hr.out
  have y4 : Ext NoB w w4 := by
   refine y3.trans' xs4 (fun _ _ h => h) (fun b hb h => ?_)
   subst h; omega
  have c4 : w4.cell? ⟨r, 3, none⟩ = some (.pointer (some ⟨L, 0, none⟩)) := by rw [cell_of_blk b4]; rfl
  have Hb4 := Lib.hid b4
  have Hl4 := Lib.hid l4
  clear c3 f3 b4 l4 xs4
  refine (Bounds_any L d _ logPre _ rs m w4 Hl4.out).mono ?_; rintro e w5 ⟨rfl, x5⟩
  have y5 := y4.trans x5
  have c5 := x5.cell c4 (fun h => h)
  have hb5 := x5.blk Hb4.out (fun h => h)
  have hl5 := Hl4.out.no x5
  have Hb5 := Lib.hid hb5
  have Hl5 := Lib.hid hl5
  have Hy5 := Lib.hid y5
  have Hy2 := Lib.hid y2
  have hrw2 : r < w2.heap.size := lt_of_blk Hb2.out
  have hw25 : w2.heap.size ≤ w5.heap.size := by have := Hx3.out.size; have := Hxs4.out; have := x5.size; omega
  have Hw25 := Lib.hid (And.intro hrw2 hw25)
  clear c4 c5 hb5 hl5 y5 y2 y3 y4 x5 hL hrL hw25 hrw2
  go_wp2_with fail
  go_loopw [16] (fun i wr => ∃ (k : Nat) (tv : Value), i = .int .i64 ((1 + k : Nat) : Int) ∧ k ≤ log.length ∧ Hid (wr.heap[r]? = some (.cells (nodeArr { savedNode id 3 draw t v with wait := 0, log := log } d L tv) 92 (0, 0))) ∧
   Hid (Own wr 3 1 tv (natsV ((log.take k).map (·.1)))) ∧ Hid (∀ g, tv.ownBlock = some g → w5.heap.size ≤ g) ∧ Hid (Ext (fun b => b = r) w5 wr)) (fun i _ => log.length + 1 - (intOf i).toNat)
  case atStart => exact ⟨0, _, rfl, by omega, Hb5, Lib.hid (Own.nil _ _ _), Lib.hid (fun g hg => by cases hg), Lib.hid (Ext.refl _ _)⟩
  case round =>
   obtain ⟨k, tv, rfl, hk, Hbr, Hot, Hft, HX⟩ := hrel
   have hbr := Hbr.out
   obtain ⟨ta, tc, htv, htn, htc⟩ := Rd.shape Hot.out.rd
   have htl : (natsV ((log.take k).map (·.1))).length = k := by simp only [natsV, List.length_map, List.length_take]; omega
   rw [htl] at htv htn
   have c3 : wr.cell? ⟨r, 3, none⟩ = some (.pointer (some ⟨L, 0, none⟩)) := by rw [cell_of_blk hbr]; rfl
   have c4 : wr.cell? ⟨r, 4, none⟩ = some (.slice ta k tc) := by rw [cell_of_blk hbr, ← htv]; rfl
   have hkm : ((1 + k : Nat) : Int) < (m : Int) ↔ k < log.length := by have := Hmlen.out; omega
   have Htv := Lib.hid (And.intro htv htn)
   have Hk := Lib.hid hk
   clear hbr htl htv htn
   by_cases hlt : k < log.length
   ·obtain ⟨⟨et, ed⟩, he0⟩ : ∃ e, log[k]? = some e := ⟨_, List.getElem?_eq_getElem hlt⟩
    obtain ⟨het, hed⟩ : et ≤ 1099511627776 ∧ ed.length ≤ 1000000 := Hok.out _ (List.mem_of_getElem? he0)
    have hlr := Hl5.out.ext HX.out (fun b hb h => by have := HFL.out b hb; have := Hw25.out; omega)
    have hget := LogGet_at L d FL sv rs m ps log wr hlr Hrsp.out Hcoh.out k et ed he0 (by omega)
    have hi' : ((1 + k : Nat) : Int) < (m : Int) := hkm.2 hlt
    obtain ⟨el, hel⟩ : ∃ el, entB (et, ed) = el := ⟨_, rfl⟩
    have hell : el.length ≤ 1000010 := by rw [← hel]; show (uv et ++ ed).length ≤ _; rw [List.length_append]; have := uv_length et; omega
    rw [hel] at hget
    have Hget := Lib.hid hget
    have Hel := Lib.hid (And.intro hel hell)
    have Het := Lib.hid het
    have He0 := Lib.hid he0
    clear hlr hget hel hell het hed he0 hkm
    go_wp2_with fail
    refine Hget.out.mono ?_; rintro e wa ⟨va, rfl, oa, fa, xa⟩
    obtain ⟨aa, ka, rfl, hna, hka⟩ := RdB.shape (l := el) oa.rd
    have Hoa := Lib.hid oa
    have Hxa := Lib.hid xa
    have c4a := xa.cell c4 (fun h => h)
    have hba := xa.blk Hbr.out (fun h => h)
    have Hba := Lib.hid hba
    clear oa fa xa hba c3 c4
    go_wp2_with fail
    obtain ⟨wb, Y, q1, q2, xb, bb, hsb⟩ := alloc_facts wa (.cells #[.slice aa el.length ka, .bool false] 97)
    rw [q1, q2]
    have hYr : Y ≠ r := by have := lt_of_blk Hba.out; omega
    have c4b := xb.cell c4a (fun h => h)
    have hoY : Off (fun b => b = Y) (.slice aa el.length ka) := fun g hg h => by have := Hoa.out.lt g hg; omega
    have hYw : wr.heap.size ≤ Y := by have := Hxa.out.size; omega
    have Hnum := Lib.hid (fun (w' : World) (x : Ext NoB wb w') => number_ok Y et aa ka el ed w' (x.blk bb (fun h => h)) ((Hoa.out.no xb).no x).rd Hel.out.1.symm Het.out (by have := Hel.out.2; omega) hna)
    have Hbb := Lib.hid (xb.blk Hba.out (fun h => h))
    have HbY := Lib.hid bb
    have HYw := Lib.hid hYw
    have Hxb := Lib.hid (Hxa.out.trans xb)
    clear q1 q2 hsb c4a xb bb hYw hoY
    go_wp2_with fail
    refine wp_region_N (fun w' => w'.cell? ⟨r, 4, none⟩ = some (.slice ta k tc)) 9 (by kernel_rfl) ?_
    have hSd : wb.drew.cell? ⟨r, 4, none⟩ = some (.slice ta k tc) := c4b
    have xbd : Ext NoB wb wb.drew := (Ext.refl _ wb).drew
    generalize wb.drew = wd at hSd xbd ⊢
    refine wpAnyN_free 0 (v := ?_) (by kernel_rfl) rfl (fun _ _ _ h => h) hSd (by rfl) ?_ ?_; rotate_left; (focus (intro w; go_simp; try with_reducible rfl)); (try simp only [Act.put]); (try simp only [List.setIfInBounds_toArray, List.set_cons_zero, List.set_cons_succ])
    refine wpAnyN_free 1 (v := ?_) (by kernel_rfl) rfl (fun _ _ _ h => h) hSd (by rfl) ?_ ?_; rotate_left; (focus (intro w; go_simp; try with_reducible rfl)); (try simp only [Act.put]); (try simp only [List.setIfInBounds_toArray, List.set_cons_zero, List.set_cons_succ])
    refine wpAnyN_free 2 (v := ?_) (by kernel_rfl) rfl (fun _ _ _ h => h) hSd (by rfl) ?_ ?_; rotate_left; (focus (intro w; go_simp; try with_reducible rfl)); (try simp only [Act.put]); (try simp only [List.setIfInBounds_toArray, List.set_cons_zero, List.set_cons_succ])
    refine wpAnyN_free 3 (v := ?_) (by kernel_rfl) rfl (fun _ _ _ h => h) hSd (by rfl) ?_ ?_; rotate_left; (focus (intro w; go_simp; try with_reducible rfl)); (try simp only [Act.put]); (try simp only [List.setIfInBounds_toArray, List.set_cons_zero, List.set_cons_succ])
    refine wpAnyN_take 4 (v := ?_) (by kernel_rfl) rfl (fun _ _ _ h => h) hSd (by rfl) ?_ ?_; rotate_left; (focus (intro w hSw; (try dsimp only at hSw); go_simp; try with_reducible rfl)); (try simp only [Act.put]); (try simp only [List.setIfInBounds_toArray, List.set_cons_zero, List.set_cons_succ])
    refine wpAnyN_free 5 (v := ?_) (by kernel_rfl) rfl (fun _ _ _ h => h) hSd (by rfl) ?_ ?_; rotate_left; (focus (intro w; go_simp; try with_reducible rfl)); (try simp only [Act.put]); (try simp only [List.setIfInBounds_toArray, List.set_cons_zero, List.set_cons_succ])
    refine wpAnyN_one 6 (by kernel_rfl) (by simp only [List.getElem?_toArray, List.getElem?_cons_succ, List.getElem?_cons_zero] <;> rfl) (by rfl) (fun K hK => ?_)
    go_simp
    refine (Hnum.out wd xbd).mono ?_; rintro e we ⟨rfl, xe, be⟩
    have hS2 := xe.cell hSd (show ¬ (r = Y) from fun h => hYr h.symm)
    have cY1 : we.cell? ⟨Y, 1, none⟩ = some (.bool false) := by rw [cell_of_blk be]; rfl
    have bre := xe.blk (xbd.blk Hbb.out (fun h => h)) (show ¬ (r = Y) from fun h => hYr h.symm)
    have Hbre := Lib.hid bre
    have Hxe := Lib.hid (And.intro xbd xe)
    have Hbe := Lib.hid be
    clear bre be xbd xe
    go_wp2_with fail
    refine hK.out _ _ hS2 (fun hSd => ?_)
    clear hK K hSd
    have hSd := hS2
    (try simp only [Act.put]); (try simp only [List.setIfInBounds_toArray, List.set_cons_zero, List.set_cons_succ])
    refine wpAnyN_one 7 (by kernel_rfl) (by simp only [List.getElem?_toArray, List.getElem?_cons_succ, List.getElem?_cons_zero] <;> rfl) (by rfl) (fun K hK => ?_)
    go_simp
    obtain ⟨wf, B6, q1, q2, xf, b6, hs6⟩ := alloc_facts we (.cells #[.int .i64 et] 3)
    rw [q1, q2]
    have hS6 := xf.cell hSd (fun h => h)
    refine hK.out _ _ hS6 (fun hSd => ?_)
    clear hK K hSd q1 q2 hs6
    have hSd := hS6
    (try simp only [Act.put]); (try simp only [List.setIfInBounds_toArray, List.set_cons_zero, List.set_cons_succ])
    refine wpAnyN_one 8 (by kernel_rfl) (by simp only [List.getElem?_toArray, List.getElem?_cons_succ, List.getElem?_cons_zero] <;> rfl) (by rfl) (fun K hK => ?_)
    have hxre : Ext (fun b => b = Y) wr we := ((Hxb.out.of_no).trans (Hxe.out.1.of_no)).trans Hxe.out.2
    have ot : Own wr 3 1 (.slice ta k tc) (natsV ((log.take k).map (·.1))) := by rw [← Htv.out.1]; exact Hot.out
    have oe := ot.ext hxre (fun g hg h => by have := ot.lt g hg; have := HYw.out; omega)
    have of := oe.no xf
    have hlk : (natsV ((log.take k).map (·.1))).length ≤ 100 := by simp only [natsV, List.length_map, List.length_take]; have := Hmlen.out; omega
    refine wp_app _ (.tmp 137) (.tmp 140) 34 34 rfl 3 1 8 unInts' elInt _ of 1 _ (Src.one unInts' B6 _ _ _ b6 rfl) (by simp only [List.length_singleton]; omega) (by decide) ?_
    intro v7 w7 o7 x7 h7
    obtain ⟨tl, htl⟩ : ∃ tl, natsV ((log.take k).map (·.1)) ++ [Value.int .i64 (et : Int)] = tl := ⟨_, rfl⟩
    rw [htl] at o7
    have htl2 : natsV ((log.take (k + 1)).map (·.1)) = tl := by rw [← htl, take_succ_some He0.out]; simp [natsV]
    obtain ⟨a7, n7, c7, rfl, _⟩ := o7.rd
    have brf := xf.blk Hbre.out (fun h => h)
    have hvr : ¬ ((Value.slice ta k tc).ownBlock = some r) := fun hg => of.ne_blk brf (by decide) r hg rfl
    have hvY : ¬ ((Value.slice ta k tc).ownBlock = some Y) := fun hg => of.ne_blk (xf.blk Hbe.out (fun h => h)) (by decide) Y hg rfl
    have hS7 := x7.cell hSd hvr
    have cY7 := x7.cell (xf.cell cY1 (fun h => h)) hvY
    refine hK.out _ _ hS7 (fun hSd => ?_)
    clear hK K hSd
    (try simp only [Act.put]); (try simp only [List.setIfInBounds_toArray, List.set_cons_zero, List.set_cons_succ])
    refine wpAnyN_tail (by rfl) (by decide) (by kernel_rfl) (by kernel_rfl) ?_
    simp only [List.drop_succ_cons, List.drop_zero]
    have br7 := x7.blk brf hvr
    have f7 : w7.frozen? ⟨r, 4, none⟩ = false := frozen_of_blk br7 4
    have Hbr7 := Lib.hid br7
    have Ho7 := Lib.hid o7
    have Htl := Lib.hid htl2
    have Hh7 := Lib.hid h7
    have Hxr7 := Lib.hid (And.intro hxre (And.intro xf x7))
    have Hlt := Lib.hid hlt
    have hw1 : IntKind.i64.wrap (((1 + k : Nat) : Int) + 1) = ((1 + (k + 1) : Nat) : Int) := by rw [IntWalk.i64_in _ (by have := Hmlen.out; omega)]; omega
    have hYr' : Y ≠ r := hYr
    clear br7 o7 htl htl2 h7 hxre xf x7 b6 oe of ot brf hvr hvY cY1 hSd hlk hlt
    go_wp2_with fail
    have xs : Ext (fun b => b = r) w7 (w7.setCell ⟨r, 4, none⟩ (.slice a7 n7 c7)) := (Ext.refl (fun b => b = r) w7).setCell (p := ⟨r, 4, none⟩) (.inl rfl) _
    have kr := blk_setCell Hbr7.out 4 (.slice a7 n7 c7)
    generalize (w7.setCell ⟨r, 4, none⟩ (.slice a7 n7 c7)) = wF at xs kr ⊢
    have sX := HX.out.size
    have s1 := Hxr7.out.1.size
    have s2 := Hxr7.out.2.1.size
    refine ⟨⟨k + 1, .slice a7 n7 c7, by rw [show (1 + (k : Int) + 1) = ((1 + (k + 1) : Nat) : Int) by omega, wrap64_in _ (by have := Hmlen.out; have := Hlt.out; omega)], by have := Hlt.out; omega, Lib.hid kr, Lib.hid ?_, Lib.hid ?_, Lib.hid ?_⟩, ?_⟩
    ·rw [Htl.out]
     exact Ho7.out.ext xs (fun g hg h => Ho7.out.ne_blk Hbr7.out (by decide) g hg h.symm)
    ·intro g hg
     rcases Hh7.out with h | ⟨g', h, h'⟩
     ·exact Hft.out g (by rw [Htv.out.1]; exact h.symm.trans hg)
     ·rw [h] at hg; cases hg; omega
    ·refine ((((HX.out.next Hxr7.out.1 (fun b h hl => by have := HYw.out; omega)).nextNo Hxr7.out.2.1).next Hxr7.out.2.2 (fun g hg hl => ?_))).next xs (fun b h _ => h)
     have := Hft.out g (by rw [Htv.out.1]; exact hg)
     omega
    ·have h1 := Hlt.out
     have h2 := Hmlen.out
     rw [show (1 + (k : Int) + 1) = ((1 + (k + 1) : Nat) : Int) by omega, wrap64_in _ (by omega)]
     show log.length + 1 - (((1 + (k + 1) : Nat) : Int)).toNat < log.length + 1 - (((1 + k : Nat) : Int)).toNat
     omega
   ·obtain rfl : k = log.length := by have := Hk.out; omega
    have hi' : ¬ ((1 + log.length : Nat) : Int) < (m : Int) := fun h => hlt (hkm.1 h)
    have hlr := Hl5.out.ext HX.out (fun b hb h => by have := HFL.out b hb; have := Hw25.out; omega)
    have hNode : NodeIs wr r d (Gr F w wr) { savedNode id 3 draw t v with wait := 0, log := log } D ps := by
     have hx5r := Hy5.out.trans' HX.out (fun _ _ h => h) (fun b hb h => by have := Hr.out; subst h; omega)
     have hd5 := HD.out.no hx5r
     have hlt5 := HD.out.lt
     have hsz := Hy5.out.size
     have hrv := Hr.out
     have h25 := Hw25.out
     have hy2 := Hy2.out.size
     have hot := Hot.out
     rw [List.take_length] at hot
     have hm5 : m = log.length + 1 := Hmlen.out.1
     refine ⟨L, F, FL, (fun b => b = r ∨ (w5.heap.size ≤ b ∧ b < wr.heap.size)), tv, false, ⟨Hbr.out, .inl rfl, hot, fun g hg => .inr ⟨Hft.out g hg, hot.lt g hg⟩, ⟨hd5, ⟨_, _, by rw [← hm5]; exact hlr, Hrsp.out, by simp⟩, ?_⟩, ?_, ?_, ?_, Hcoh.out, ⟨HI.out, Nat.le_of_ble_eq_true rfl⟩, Nat.zero_le _⟩, ?_, ?_⟩
     ·intro b hb h; have := hlt5 _ hb; have := HFL.out b h; omega
     ·intro b hb h; have := hlt5 _ h; rcases hb with hb | hb <;> omega
     ·intro b hb h
      have h1 := HFL.out b h
      have h2 := Hl5.out.lt b h
      rcases hb with hb | hb <;> omega
     ·intro b hb
      rcases hb with hb | hb
      ·subst hb; exact lt_of_blk Hbr.out
      ·exact hb.2
     ·intro b hb
      rcases hb with hb | hb | hb
      ·exact .inl hb
      ·exact .inr ⟨by have := HFL.out b hb; omega, hlr.lt b hb⟩
      ·rcases hb with hb | hb
       ·subst hb; exact .inr ⟨by omega, lt_of_blk Hbr.out⟩
       ·exact .inr ⟨by omega, hb.2⟩
     ·intro b hb
      rcases hb with hb | hb
      ·exact Nat.lt_of_lt_of_le (hlt5 b hb) hx5r.size
      ·exact hb.2
    have Hnode := Lib.hid hNode
    have Hxr : Hid (Ext NoB w wr) := Lib.hid (Hy5.out.trans' HX.out (fun _ _ h => h) (fun b hb h => by have := Hr.out; subst h; omega))
    clear hNode hlr c3 c4 hkm
    go_wp2_with fail
    refine (anew_any r d _ _ _ ps draw wr Hnode.out).mono ?_; rintro e w6 ⟨rfl, x6, n6⟩
    have Hn6 := Lib.hid n6
    have Hx6 := Lib.hid x6
    clear n6 x6
    go_wp2_with fail
    go_ret2
    have hsz := Hx6.out.size
    refine ⟨r, rfl, (Hxr.out.of_no).next Hx6.out (fun b h hb => h.elim (fun k => k) (fun h => by omega)), ⟨D, ps, ?_, rfl, ?_⟩, fun h => (by cases h), (show -1 ≤ v ∧ v ≤ 5 by omega), ht⟩
    obtain ⟨L', FD, FL', FR, tv', dl, h1, h2, h3⟩ := Hn6.out
    refine ⟨L', FD, FL', FR, tv', dl, h1, fun b hb => ?_, fun b hb => ?_⟩
    ·rcases h2 b hb with h | h
     ·exact .inl h
     ·exact .inr (by omega)
    ·rcases hb with hb | hb
     ·exact h3 b (.inl hb)
     ·exact hb.2
    ·exact Hp.out
 ·have hi3 : ¬ ((5 : Int) ≤ (id : Int)) := by omega
  have hv3 : ¬ ((5 : Int) ≤ v) := by omega
  go_enter Tryz.func16, Tryz.ntmps16
  go_wp2_with fail
  obtain ⟨w1, r, e1, e2, x1, b1, hs1⟩ := alloc_facts w (.cells #[.int .i64 id, .int .i64 5, .pointer (some ⟨d, 0, none⟩), .pointer none, .slice none 0 0, .int .i64 0, .int .i64 (-1), .int .i64 0, .int .i64 (-1), .int .i64 0, .int .i64 0, .int .i64 0, .int .u8 0,
   .int .i64 0, .int .i64 0, .int .i64 0, .int .i64 0, .int .i64 0, .int .i64 0, .int .i64 0, .int .i64 0, .int .i64 0, .int .i64 0, .bool false] 92)
  rw [e1, e2]
  refine (hload.out w1 x1).mono ?_; rintro e wL ⟨vL, rfl, oL, fL, xL⟩
  obtain ⟨a2, k2, rfl, hn2, hk2⟩ := RdB.shape (l := bl) oL.rd
  have yL := x1.trans xL
  have bL := xL.blk b1 (fun h => h)
  have HbL := Lib.hid bL
  have Hr := Lib.hid e2
  have HoL := Lib.hid oL
  have HyL := Lib.hid yL
  clear e1 e2 b1 hs1 xL oL fL x1 bL yL
  go_wp2_with fail
  obtain ⟨w3, X, q1, q2, x3, b3, hs3⟩ := alloc_facts wL (.cells #[.slice a2 bl.length k2, .bool false] 97)
  rw [q1, q2]
  have r3 : RdB w3 (.slice a2 bl.length k2) bl := (HoL.out.no x3).rd
  have hrX : r ≠ X := by have := lt_of_blk HbL.out; omega
  have hwX : w.heap.size ≤ X := by have := HyL.out.size; omega
  refine (number_ok X t a2 k2 bl (uv q ++ []) w3 b3 r3 Hbq.out ht (by have := Hll.out; omega) hn2).mono ?_
  rintro e w4 ⟨rfl, x4, b4⟩
  obtain ⟨kk, hkk⟩ : ∃ kk, (uv t).length = kk := ⟨_, rfl⟩
  rw [hkk] at b4
  have hkl : kk ≤ bl.length := by rw [Hbq.out, List.length_append]; omega
  have hdrop : bl.drop kk = uv q ++ [] := by rw [Hbq.out, ← hkk, List.drop_left]
  have hoff : Off (fun b => b = X) (.slice a2 bl.length k2) := fun g hg h => by have := HoL.out.lt g hg; omega
  have hln : bl.length - kk = (uv q ++ ([] : List UInt8)).length := by rw [← hdrop, List.length_drop]
  have r4 : RdB w4 (.slice (subA a2 kk k2) (uv q ++ ([] : List UInt8)).length (k2 - kk)) (uv q ++ []) := by
   have h1 : RdB w4 (.slice a2 bl.length k2) bl := Rd.ext r3 x4 hoff
   have h2 := RdB.drop h1 kk hkl hn2
   rw [hdrop, hln] at h2
   exact h2
  rw [hln] at b4
  have hsn : Off (fun b => b = X) (.slice (subA a2 kk k2) (uv q ++ ([] : List UInt8)).length (k2 - kk)) := Off.sub (a := a2) (n := bl.length) (c := k2) hoff kk _ k2 _
  obtain ⟨sa, hsa⟩ : ∃ sa, subA a2 kk k2 = sa := ⟨_, rfl⟩
  obtain ⟨cn, hcn⟩ : ∃ cn, k2 - kk = cn := ⟨_, rfl⟩
  obtain ⟨l2, hl2⟩ : ∃ l2, uv q ++ ([] : List UInt8) = l2 := ⟨_, rfl⟩
  have hnc : l2.length ≤ cn := by rw [← hl2, ← hln, ← hcn]; omega
  have hl2n : l2.length ≤ 10 := by rw [← hl2, List.append_nil]; exact uv_length q
  rw [hsa, hcn, hl2] at r4 b4 hsn
  have bR4 := x4.blk (x3.blk HbL.out (fun h => h)) (show ¬ (r = X) from hrX)
  have Hr4 := Lib.hid r4
  have Hb4 := Lib.hid b4
  have HbR4 := Lib.hid bR4
  have Hl2 := Lib.hid hl2
  have x4w : Ext NoB w w4 := (HyL.out.trans x3).trans' x4 (fun _ _ h => h) (fun b hb h => by omega)
  have Hx4w := Lib.hid x4w
  clear r3 r4 b3 b4 bR4 x4 hdrop hkl hoff hln hkk hsa hcn hl2 q1 q2 x3 hs3 x4w hsn
  go_wp2_with fail
  refine (number_ok X q sa cn l2 [] w4 Hb4.out Hr4.out Hl2.out.symm hq40 (by omega) hnc).mono ?_
  rintro e w5 ⟨rfl, x5, b5⟩
  have hz5 : l2.length - (uv q).length = 0 := by rw [← Hl2.out]; simp
  rw [hz5] at b5
  obtain ⟨sb, hsb⟩ : ∃ sb, subA sa (uv q).length cn = sb := ⟨_, rfl⟩
  obtain ⟨cb, hcb⟩ : ∃ cb, cn - (uv q).length = cb := ⟨_, rfl⟩
  rw [hsb, hcb] at b5
  have bR5 := x5.blk HbR4.out (show ¬ (r = X) from hrX)
  have p5 : w5.cell? ⟨r, 5, none⟩ = some (.int .i64 0) := by rw [cell_of_blk bR5]; rfl
  have p6 : w5.cell? ⟨r, 6, none⟩ = some (.int .i64 (-1)) := by rw [cell_of_blk bR5]; rfl
  have f5 : w5.frozen? ⟨r, 5, none⟩ = false := frozen_of_blk bR5 5
  have f6 : w5.frozen? ⟨r, 6, none⟩ = false := frozen_of_blk bR5 6
  have pX0 : w5.cell? ⟨X, 0, none⟩ = some (.slice sb 0 cb) := by rw [cell_of_blk b5]; rfl
  have pX1 : w5.cell? ⟨X, 1, none⟩ = some (.bool false) := by rw [cell_of_blk b5]; rfl
  have hXr : X ≠ r := fun e => hrX e.symm
  have HbR5 := Lib.hid bR5
  have x5w : Ext NoB w w5 := Hx4w.out.trans' x5 (fun _ _ h => h) (fun b hb h => by omega)
  have Hx5w := Lib.hid x5w
  clear bR5 b5 x5 x5w hsb hcb hz5
  go_wp2_with fail
  have xs6 : Ext (fun b => b = r) w5 ((w5.setCell ⟨r, 5, none⟩ (.int .i64 t)).setCell ⟨r, 6, none⟩ (.int .i64 v)) := ((Ext.refl (fun b => b = r) w5).setCell (p := ⟨r, 5, none⟩) (.inl rfl) _).setCell (p := ⟨r, 6, none⟩) (.inl rfl) _
  have b6 := blk_setCell (blk_setCell HbR5.out 5 (.int .i64 t)) 6 (.int .i64 v)
  generalize ((w5.setCell ⟨r, 5, none⟩ (.int .i64 t)).setCell ⟨r, 6, none⟩ (.int .i64 v)) = w2 at xs6 b6 ⊢
  have hwr0 : w.heap.size = r := Hr.out
  have y2 : Ext NoB w w2 := Hx5w.out.trans' xs6 (fun _ _ h => h) (fun b hb h => by subst h; omega)
  have Hb2 := Lib.hid b6
  clear b6 xs6 p5 p6 f5 f6 pX0 pX1 hwr0
  refine (hopen.out w2 y2).mono ?_; rintro e w3 ⟨L, FL, sv, rs, rfl, l3, hrsp, hFL, x3⟩
  have hL := hFL L l3.self
  have y3 := y2.trans x3
  have b3 := x3.blk Hb2.out (fun h => h)
  have c3 : w3.cell? ⟨r, 3, none⟩ = some (.pointer none) := by rw [cell_of_blk b3]; rfl
  have f3 : w3.frozen? ⟨r, 3, none⟩ = false := frozen_of_blk b3 3
  have hrL : r < L := Nat.lt_of_lt_of_le (lt_of_blk Hb2.out) hL
  have Hb3 := Lib.hid b3
  have Hl3 := Lib.hid l3
  have Hx3 := Lib.hid x3
  have HFL := Lib.hid hFL
  have Hrsp := Lib.hid hrsp
  clear b3 l3 x3 hFL hrsp
  go_wp2_with fail
  have xs4 : Ext (fun b => b = r) w3 (w3.setCell ⟨r, 3, none⟩ (.pointer (some ⟨L, 0, none⟩))) := (Ext.refl (fun b => b = r) w3).setCell (p := ⟨r, 3, none⟩) (.inl rfl) _
  have b4 := blk_setCell Hb3.out 3 (.pointer (some ⟨L, 0, none⟩))
  generalize (w3.setCell ⟨r, 3, none⟩ (.pointer (some ⟨L, 0, none⟩))) = w4 at xs4 b4 ⊢
  have Hxs4 := Lib.hid xs4.size
  have l4 := Hl3.out.ext xs4 (fun b hb h => by have := HFL.out b hb; have := lt_of_blk Hb2.out; omega)
  have hwr : w.heap.size = r := Hr.out
  have y4 : Ext NoB w w4 := by
   refine y3.trans' xs4 (fun _ _ h => h) (fun b hb h => ?_)
   subst h; omega
  have c4 : w4.cell? ⟨r, 3, none⟩ = some (.pointer (some ⟨L, 0, none⟩)) := by rw [cell_of_blk b4]; rfl
  have Hb4 := Lib.hid b4
  have Hl4 := Lib.hid l4
  clear c3 f3 b4 l4 xs4
  refine (Bounds_any L d _ logPre _ rs m w4 Hl4.out).mono ?_; rintro e w5 ⟨rfl, x5⟩
  have y5 := y4.trans x5
  have c5 := x5.cell c4 (fun h => h)
  have hb5 := x5.blk Hb4.out (fun h => h)
  have hl5 := Hl4.out.no x5
  have Hb5 := Lib.hid hb5
  have Hl5 := Lib.hid hl5
  have Hy5 := Lib.hid y5
  have Hy2 := Lib.hid y2
  have hrw2 : r < w2.heap.size := lt_of_blk Hb2.out
  have hw25 : w2.heap.size ≤ w5.heap.size := by have := Hx3.out.size; have := Hxs4.out; have := x5.size; omega
  have Hw25 := Lib.hid (And.intro hrw2 hw25)
  clear c4 c5 hb5 hl5 y5 y2 y3 y4 x5 hL hrL hw25 hrw2
  go_wp2_with fail
  go_loopw [16] (fun i wr => ∃ (k : Nat) (tv : Value), i = .int .i64 ((1 + k : Nat) : Int) ∧ k ≤ log.length ∧ Hid (wr.heap[r]? = some (.cells (nodeArr { savedNode id 5 draw t v with wait := 0, log := log } d L tv) 92 (0, 0))) ∧
   Hid (Own wr 3 1 tv (natsV ((log.take k).map (·.1)))) ∧ Hid (∀ g, tv.ownBlock = some g → w5.heap.size ≤ g) ∧ Hid (Ext (fun b => b = r) w5 wr)) (fun i _ => log.length + 1 - (intOf i).toNat)
  case atStart => exact ⟨0, _, rfl, by omega, Hb5, Lib.hid (Own.nil _ _ _), Lib.hid (fun g hg => by cases hg), Lib.hid (Ext.refl _ _)⟩
  case round =>
   obtain ⟨k, tv, rfl, hk, Hbr, Hot, Hft, HX⟩ := hrel
   have hbr := Hbr.out
   obtain ⟨ta, tc, htv, htn, htc⟩ := Rd.shape Hot.out.rd
   have htl : (natsV ((log.take k).map (·.1))).length = k := by simp only [natsV, List.length_map, List.length_take]; omega
   rw [htl] at htv htn
   have c3 : wr.cell? ⟨r, 3, none⟩ = some (.pointer (some ⟨L, 0, none⟩)) := by rw [cell_of_blk hbr]; rfl
   have c4 : wr.cell? ⟨r, 4, none⟩ = some (.slice ta k tc) := by rw [cell_of_blk hbr, ← htv]; rfl
   have hkm : ((1 + k : Nat) : Int) < (m : Int) ↔ k < log.length := by have := Hmlen.out; omega
   have Htv := Lib.hid (And.intro htv htn)
   have Hk := Lib.hid hk
   clear hbr htl htv htn
   by_cases hlt : k < log.length
   ·obtain ⟨⟨et, ed⟩, he0⟩ : ∃ e, log[k]? = some e := ⟨_, List.getElem?_eq_getElem hlt⟩
    obtain ⟨het, hed⟩ : et ≤ 1099511627776 ∧ ed.length ≤ 1000000 := Hok.out _ (List.mem_of_getElem? he0)
    have hlr := Hl5.out.ext HX.out (fun b hb h => by have := HFL.out b hb; have := Hw25.out; omega)
    have hget := LogGet_at L d FL sv rs m ps log wr hlr Hrsp.out Hcoh.out k et ed he0 (by omega)
    have hi' : ((1 + k : Nat) : Int) < (m : Int) := hkm.2 hlt
    obtain ⟨el, hel⟩ : ∃ el, entB (et, ed) = el := ⟨_, rfl⟩
    have hell : el.length ≤ 1000010 := by rw [← hel]; show (uv et ++ ed).length ≤ _; rw [List.length_append]; have := uv_length et; omega
    rw [hel] at hget
    have Hget := Lib.hid hget
    have Hel := Lib.hid (And.intro hel hell)
    have Het := Lib.hid het
    have He0 := Lib.hid he0
    clear hlr hget hel hell het hed he0 hkm
    go_wp2_with fail
    refine Hget.out.mono ?_; rintro e wa ⟨va, rfl, oa, fa, xa⟩
    obtain ⟨aa, ka, rfl, hna, hka⟩ := RdB.shape (l := el) oa.rd
    have Hoa := Lib.hid oa
    have Hxa := Lib.hid xa
    have c4a := xa.cell c4 (fun h => h)
    have hba := xa.blk Hbr.out (fun h => h)
    have Hba := Lib.hid hba
    clear oa fa xa hba c3 c4
    go_wp2_with fail
    obtain ⟨wb, Y, q1, q2, xb, bb, hsb⟩ := alloc_facts wa (.cells #[.slice aa el.length ka, .bool false] 97)
    rw [q1, q2]
    have hYr : Y ≠ r := by have := lt_of_blk Hba.out; omega
    have c4b := xb.cell c4a (fun h => h)
    have hoY : Off (fun b => b = Y) (.slice aa el.length ka) := fun g hg h => by have := Hoa.out.lt g hg; omega
    have hYw : wr.heap.size ≤ Y := by have := Hxa.out.size; omega
    have Hnum := Lib.hid (fun (w' : World) (x : Ext NoB wb w') => number_ok Y et aa ka el ed w' (x.blk bb (fun h => h)) ((Hoa.out.no xb).no x).rd Hel.out.1.symm Het.out (by have := Hel.out.2; omega) hna)
    have Hbb := Lib.hid (xb.blk Hba.out (fun h => h))
    have HbY := Lib.hid bb
    have HYw := Lib.hid hYw
    have Hxb := Lib.hid (Hxa.out.trans xb)
    clear q1 q2 hsb c4a xb bb hYw hoY
    go_wp2_with fail
    refine wp_region_N (fun w' => w'.cell? ⟨r, 4, none⟩ = some (.slice ta k tc)) 9 (by kernel_rfl) ?_
    have hSd : wb.drew.cell? ⟨r, 4, none⟩ = some (.slice ta k tc) := c4b
    have xbd : Ext NoB wb wb.drew := (Ext.refl _ wb).drew
    generalize wb.drew = wd at hSd xbd ⊢
    refine wpAnyN_free 0 (v := ?_) (by kernel_rfl) rfl (fun _ _ _ h => h) hSd (by rfl) ?_ ?_; rotate_left; (focus (intro w; go_simp; try with_reducible rfl)); (try simp only [Act.put]); (try simp only [List.setIfInBounds_toArray, List.set_cons_zero, List.set_cons_succ])
    refine wpAnyN_free 1 (v := ?_) (by kernel_rfl) rfl (fun _ _ _ h => h) hSd (by rfl) ?_ ?_; rotate_left; (focus (intro w; go_simp; try with_reducible rfl)); (try simp only [Act.put]); (try simp only [List.setIfInBounds_toArray, List.set_cons_zero, List.set_cons_succ])
    refine wpAnyN_free 2 (v := ?_) (by kernel_rfl) rfl (fun _ _ _ h => h) hSd (by rfl) ?_ ?_; rotate_left; (focus (intro w; go_simp; try with_reducible rfl)); (try simp only [Act.put]); (try simp only [List.setIfInBounds_toArray, List.set_cons_zero, List.set_cons_succ])
    refine wpAnyN_free 3 (v := ?_) (by kernel_rfl) rfl (fun _ _ _ h => h) hSd (by rfl) ?_ ?_; rotate_left; (focus (intro w; go_simp; try with_reducible rfl)); (try simp only [Act.put]); (try simp only [List.setIfInBounds_toArray, List.set_cons_zero, List.set_cons_succ])
    refine wpAnyN_take 4 (v := ?_) (by kernel_rfl) rfl (fun _ _ _ h => h) hSd (by rfl) ?_ ?_; rotate_left; (focus (intro w hSw; (try dsimp only at hSw); go_simp; try with_reducible rfl)); (try simp only [Act.put]); (try simp only [List.setIfInBounds_toArray, List.set_cons_zero, List.set_cons_succ])
    refine wpAnyN_free 5 (v := ?_) (by kernel_rfl) rfl (fun _ _ _ h => h) hSd (by rfl) ?_ ?_; rotate_left; (focus (intro w; go_simp; try with_reducible rfl)); (try simp only [Act.put]); (try simp only [List.setIfInBounds_toArray, List.set_cons_zero, List.set_cons_succ])
    refine wpAnyN_one 6 (by kernel_rfl) (by simp only [List.getElem?_toArray, List.getElem?_cons_succ, List.getElem?_cons_zero] <;> rfl) (by rfl) (fun K hK => ?_)
    go_simp
    refine (Hnum.out wd xbd).mono ?_; rintro e we ⟨rfl, xe, be⟩
    have hS2 := xe.cell hSd (show ¬ (r = Y) from fun h => hYr h.symm)
    have cY1 : we.cell? ⟨Y, 1, none⟩ = some (.bool false) := by rw [cell_of_blk be]; rfl
    have bre := xe.blk (xbd.blk Hbb.out (fun h => h)) (show ¬ (r = Y) from fun h => hYr h.symm)
    have Hbre := Lib.hid bre
    have Hxe := Lib.hid (And.intro xbd xe)
    have Hbe := Lib.hid be
    clear bre be xbd xe
    go_wp2_with fail
    refine hK.out _ _ hS2 (fun hSd => ?_)
    clear hK K hSd
    have hSd := hS2
    (try simp only [Act.put]); (try simp only [List.setIfInBounds_toArray, List.set_cons_zero, List.set_cons_succ])
    refine wpAnyN_one 7 (by kernel_rfl) (by simp only [List.getElem?_toArray, List.getElem?_cons_succ, List.getElem?_cons_zero] <;> rfl) (by rfl) (fun K hK => ?_)
    go_simp
    obtain ⟨wf, B6, q1, q2, xf, b6, hs6⟩ := alloc_facts we (.cells #[.int .i64 et] 3)
    rw [q1, q2]
    have hS6 := xf.cell hSd (fun h => h)
    refine hK.out _ _ hS6 (fun hSd => ?_)
    clear hK K hSd q1 q2 hs6
    have hSd := hS6
    (try simp only [Act.put]); (try simp only [List.setIfInBounds_toArray, List.set_cons_zero, List.set_cons_succ])
    refine wpAnyN_one 8 (by kernel_rfl) (by simp only [List.getElem?_toArray, List.getElem?_cons_succ, List.getElem?_cons_zero] <;> rfl) (by rfl) (fun K hK => ?_)
    have hxre : Ext (fun b => b = Y) wr we := ((Hxb.out.of_no).trans (Hxe.out.1.of_no)).trans Hxe.out.2
    have ot : Own wr 3 1 (.slice ta k tc) (natsV ((log.take k).map (·.1))) := by rw [← Htv.out.1]; exact Hot.out
    have oe := ot.ext hxre (fun g hg h => by have := ot.lt g hg; have := HYw.out; omega)
    have of := oe.no xf
    have hlk : (natsV ((log.take k).map (·.1))).length ≤ 100 := by simp only [natsV, List.length_map, List.length_take]; have := Hmlen.out; omega
    refine wp_app _ (.tmp 137) (.tmp 140) 34 34 rfl 3 1 8 unInts' elInt _ of 1 _ (Src.one unInts' B6 _ _ _ b6 rfl) (by simp only [List.length_singleton]; omega) (by decide) ?_
    intro v7 w7 o7 x7 h7
    obtain ⟨tl, htl⟩ : ∃ tl, natsV ((log.take k).map (·.1)) ++ [Value.int .i64 (et : Int)] = tl := ⟨_, rfl⟩
    rw [htl] at o7
    have htl2 : natsV ((log.take (k + 1)).map (·.1)) = tl := by rw [← htl, take_succ_some He0.out]; simp [natsV]
    obtain ⟨a7, n7, c7, rfl, _⟩ := o7.rd
    have brf := xf.blk Hbre.out (fun h => h)
    have hvr : ¬ ((Value.slice ta k tc).ownBlock = some r) := fun hg => of.ne_blk brf (by decide) r hg rfl
    have hvY : ¬ ((Value.slice ta k tc).ownBlock = some Y) := fun hg => of.ne_blk (xf.blk Hbe.out (fun h => h)) (by decide) Y hg rfl
    have hS7 := x7.cell hSd hvr
    have cY7 := x7.cell (xf.cell cY1 (fun h => h)) hvY
    refine hK.out _ _ hS7 (fun hSd => ?_)
    clear hK K hSd
    (try simp only [Act.put]); (try simp only [List.setIfInBounds_toArray, List.set_cons_zero, List.set_cons_succ])
    refine wpAnyN_tail (by rfl) (by decide) (by kernel_rfl) (by kernel_rfl) ?_
    simp only [List.drop_succ_cons, List.drop_zero]
    have br7 := x7.blk brf hvr
    have f7 : w7.frozen? ⟨r, 4, none⟩ = false := frozen_of_blk br7 4
    have Hbr7 := Lib.hid br7
    have Ho7 := Lib.hid o7
    have Htl := Lib.hid htl2
    have Hh7 := Lib.hid h7
    have Hxr7 := Lib.hid (And.intro hxre (And.intro xf x7))
    have Hlt := Lib.hid hlt
    have hw1 : IntKind.i64.wrap (((1 + k : Nat) : Int) + 1) = ((1 + (k + 1) : Nat) : Int) := by rw [IntWalk.i64_in _ (by have := Hmlen.out; omega)]; omega
    have hYr' : Y ≠ r := hYr
    clear br7 o7 htl htl2 h7 hxre xf x7 b6 oe of ot brf hvr hvY cY1 hSd hlk hlt
    go_wp2_with fail
    have xs : Ext (fun b => b = r) w7 (w7.setCell ⟨r, 4, none⟩ (.slice a7 n7 c7)) := (Ext.refl (fun b => b = r) w7).setCell (p := ⟨r, 4, none⟩) (.inl rfl) _
    have kr := blk_setCell Hbr7.out 4 (.slice a7 n7 c7)
    generalize (w7.setCell ⟨r, 4, none⟩ (.slice a7 n7 c7)) = wF at xs kr ⊢
    have sX := HX.out.size
    have s1 := Hxr7.out.1.size
    have s2 := Hxr7.out.2.1.size
    refine ⟨⟨k + 1, .slice a7 n7 c7, by rw [show (1 + (k : Int) + 1) = ((1 + (k + 1) : Nat) : Int) by omega, wrap64_in _ (by have := Hmlen.out; have := Hlt.out; omega)], by have := Hlt.out; omega, Lib.hid kr, Lib.hid ?_, Lib.hid ?_, Lib.hid ?_⟩, ?_⟩
    ·rw [Htl.out]
     exact Ho7.out.ext xs (fun g hg h => Ho7.out.ne_blk Hbr7.out (by decide) g hg h.symm)
    ·intro g hg
     rcases Hh7.out with h | ⟨g', h, h'⟩
     ·exact Hft.out g (by rw [Htv.out.1]; exact h.symm.trans hg)
     ·rw [h] at hg; cases hg; omega
    ·refine ((((HX.out.next Hxr7.out.1 (fun b h hl => by have := HYw.out; omega)).nextNo Hxr7.out.2.1).next Hxr7.out.2.2 (fun g hg hl => ?_))).next xs (fun b h _ => h)
     have := Hft.out g (by rw [Htv.out.1]; exact hg)
     omega
    ·have h1 := Hlt.out
     have h2 := Hmlen.out
     rw [show (1 + (k : Int) + 1) = ((1 + (k + 1) : Nat) : Int) by omega, wrap64_in _ (by omega)]
     show log.length + 1 - (((1 + (k + 1) : Nat) : Int)).toNat < log.length + 1 - (((1 + k : Nat) : Int)).toNat
     omega
   ·obtain rfl : k = log.length := by have := Hk.out; omega
    have hi' : ¬ ((1 + log.length : Nat) : Int) < (m : Int) := fun h => hlt (hkm.1 h)
    have hlr := Hl5.out.ext HX.out (fun b hb h => by have := HFL.out b hb; have := Hw25.out; omega)
    have hNode : NodeIs wr r d (Gr F w wr) { savedNode id 5 draw t v with wait := 0, log := log } D ps := by
     have hx5r := Hy5.out.trans' HX.out (fun _ _ h => h) (fun b hb h => by have := Hr.out; subst h; omega)
     have hd5 := HD.out.no hx5r
     have hlt5 := HD.out.lt
     have hsz := Hy5.out.size
     have hrv := Hr.out
     have h25 := Hw25.out
     have hy2 := Hy2.out.size
     have hot := Hot.out
     rw [List.take_length] at hot
     have hm5 : m = log.length + 1 := Hmlen.out.1
     refine ⟨L, F, FL, (fun b => b = r ∨ (w5.heap.size ≤ b ∧ b < wr.heap.size)), tv, false, ⟨Hbr.out, .inl rfl, hot, fun g hg => .inr ⟨Hft.out g hg, hot.lt g hg⟩, ⟨hd5, ⟨_, _, by rw [← hm5]; exact hlr, Hrsp.out, by simp⟩, ?_⟩, ?_, ?_, ?_, Hcoh.out, ⟨HI.out, Nat.le_of_ble_eq_true rfl⟩, Nat.zero_le _⟩, ?_, ?_⟩
     ·intro b hb h; have := hlt5 _ hb; have := HFL.out b h; omega
     ·intro b hb h; have := hlt5 _ h; rcases hb with hb | hb <;> omega
     ·intro b hb h
      have h1 := HFL.out b h
      have h2 := Hl5.out.lt b h
      rcases hb with hb | hb <;> omega
     ·intro b hb
      rcases hb with hb | hb
      ·subst hb; exact lt_of_blk Hbr.out
      ·exact hb.2
     ·intro b hb
      rcases hb with hb | hb | hb
      ·exact .inl hb
      ·exact .inr ⟨by have := HFL.out b hb; omega, hlr.lt b hb⟩
      ·rcases hb with hb | hb
       ·subst hb; exact .inr ⟨by omega, lt_of_blk Hbr.out⟩
       ·exact .inr ⟨by omega, hb.2⟩
     ·intro b hb
      rcases hb with hb | hb
      ·exact Nat.lt_of_lt_of_le (hlt5 b hb) hx5r.size
      ·exact hb.2
    have Hnode := Lib.hid hNode
    have Hxr : Hid (Ext NoB w wr) := Lib.hid (Hy5.out.trans' HX.out (fun _ _ h => h) (fun b hb h => by have := Hr.out; subst h; omega))
    clear hNode hlr c3 c4 hkm
    go_wp2_with fail
    refine (anew_any r d _ _ _ ps draw wr Hnode.out).mono ?_; rintro e w6 ⟨rfl, x6, n6⟩
    have Hn6 := Lib.hid n6
    have Hx6 := Lib.hid x6
    clear n6 x6
    go_wp2_with fail
    go_ret2
    have hsz := Hx6.out.size
    refine ⟨r, rfl, (Hxr.out.of_no).next Hx6.out (fun b h hb => h.elim (fun k => k) (fun h => by omega)), ⟨D, ps, ?_, rfl, ?_⟩, fun h => (by cases h), (show -1 ≤ v ∧ v ≤ 5 by omega), ht⟩
    obtain ⟨L', FD, FL', FR, tv', dl, h1, h2, h3⟩ := Hn6.out
    refine ⟨L', FD, FL', FR, tv', dl, h1, fun b hb => ?_, fun b hb => ?_⟩
    ·rcases h2 b hb with h | h
     ·exact .inl h
     ·exact .inr (by omega)
    ·rcases hb with hb | hb
     ·exact h3 b (.inl hb)
     ·exact hb.2
    ·exact Hp.out
end Go.Proofs.YtgglbholbkdgfaaGreatDoor
namespace Go.Proofs.YtgglbholbkdgfaaGreatDoor
open Go.RowKit
set_option maxRecDepth 100000 in
set_option maxHeartbeats 4000000 in
theorem Hear_new2 (r d : Nat) (F : Nat → Prop) (N N' : PNode) (room : Nat) (saved : Bool) (Ms : List PMsg) (fr tt draw : Int) (t0 : Nat) (na da : Option Addr) (nc dl dc : Nat) (l : List Int) (w : World) (h : RaftIs w r d F N room saved)
  (hn : Rd w 1 (.slice na l.length nc) (intsV l)) (hoff : Off F (.slice na l.length nc)) (h0 : l[0]? = some (t0 : Int)) (hgt : N.term < t0) (ht0 : t0 ≤ 1099511627776) (hroom : N.bytes + 100 ≤ room)
  (hmay : ∀ w1, Ext NoB w w1 → Calls Tryz.prog 45 #[.pointer (some ⟨r, 0, none⟩), msgV fr tt 2 (.slice na l.length nc) (.slice da dl dc)] w1 (MayEnds true w1))
  (hdo : ∀ w1 F1, Ext F w w1 → (∀ b, F1 b → F b ∨ w.heap.size ≤ b) → RaftIs w1 r d F1 (N.newer_ t0) room true → Calls Tryz.prog 48 #[.pointer (some ⟨r, 0, none⟩), msgV fr tt 2 (.slice na l.length nc) (.slice da dl dc)] w1 (Sends r d F1 w1 Ms N' room true)) :
  Calls Tryz.prog 19 #[.pointer (some ⟨r, 0, none⟩), msgV fr tt 2 (.slice na l.length nc) (.slice da dl dc), .int .i64 draw] w (Sends r d F w Ms N' room true) := by
 obtain ⟨L, tv, hb, hi1, hi2, hcm, hll⟩ := h.cells
 have hlp : 0 < l.length := (List.getElem?_eq_some_iff.1 h0).1
 obtain ⟨nb, noff, rfl, hcell⟩ := nums_cell hn hlp
 have hnbF : ¬ F nb := hoff nb rfl
 have cn0 : w.cell? ⟨nb, noff, none⟩ = some (.int .i64 t0) := hcell 0 t0 h0
 have hnbl : nb < w.heap.size := World.block_lt_of_cell? w _ cn0
 have c5 : w.cell? ⟨r, 5, none⟩ = some (.int .i64 N.term) := by rw [cell_of_blk hb]; rfl
 have c23 : w.cell? ⟨r, 23, none⟩ = some (.bool false) := by rw [cell_of_blk hb]; rfl
 have hlp2 : (0 : Int) < (l.length : Int) := by omega
 have hgt2 : (N.term : Int) < (t0 : Int) := by omega
 have hrl := lt_of_blk hb
 have H := Lib.hid h
 have Hn := Lib.hid hn
 have Hmay := Lib.hid hmay
 have Hdo := Lib.hid hdo
 have Hturn := Lib.hid (fun (w' : World) (x : Ext NoB w w') => turns_any r d F N room saved t0 (-1) w' (h.no x) ht0 (by omega) hroom)
 clear h hb hn hcell h0 hmay hdo hoff
 unfold msgV
 go_enter Tryz.func19, Tryz.ntmps19
 go_wp2_with fail
 obtain ⟨w1, BM, e1, e2, x1, b1, hs1⟩ := alloc_facts w (.cells #[.int .i64 fr, .int .i64 tt, .int .i64 2, .slice (some ⟨nb, noff, none⟩) l.length nc, .slice da dl dc] 37)
 rw [e1, e2]
 have hBMF : ¬ F BM := fun hf => by have := H.out.lt BM hf; omega
 refine (Hmay.out w1 x1).mono ?_; rintro e w2 ⟨rfl, x2⟩
 have x02 := x1.trans x2
 have b2 := x2.blk b1 (fun h => h)
 have dM3 : w2.cell? ⟨BM, 3, none⟩ = some (.slice (some ⟨nb, noff, none⟩) l.length nc) := by rw [cell_of_blk b2]; rfl
 have d5 := x02.cell c5 (fun h => h)
 have dn0 := x02.cell cn0 (fun h => h)
 have Hx02 := Lib.hid x02
 have Hb2 := Lib.hid b2
 have hBM2 : BM < w2.heap.size := lt_of_blk b2
 clear e1 x1 b1 hs1 x2 x02 b2 c5 cn0 c23
 go_wp2_with fail
 refine (Hturn.out w2 Hx02.out).mono ?_; rintro e w3 ⟨rfl, x3, r3⟩
 have b3 := x3.blk Hb2.out hBMF
 obtain ⟨L3, tv3, hb3, _, _, _, _⟩ := r3.cells
 have d7 : w3.cell? ⟨r, 7, none⟩ = some (.int .i64 N.role) := by rw [cell_of_blk hb3]; rfl
 have d8 : w3.cell? ⟨r, 8, none⟩ = some (.int .i64 N.leader) := by rw [cell_of_blk hb3]; rfl
 have f7 : w3.frozen? ⟨r, 7, none⟩ = false := frozen_of_blk hb3 7
 have f8 : w3.frozen? ⟨r, 8, none⟩ = false := frozen_of_blk hb3 8
 have hBMr : BM ≠ r := by omega
 have m0 : w3.cell? ⟨BM, 0, none⟩ = some (.int .i64 fr) := by rw [cell_of_blk b3]; rfl
 have m1 : w3.cell? ⟨BM, 1, none⟩ = some (.int .i64 tt) := by rw [cell_of_blk b3]; rfl
 have m2 : w3.cell? ⟨BM, 2, none⟩ = some (.int .i64 2) := by rw [cell_of_blk b3]; rfl
 have m3 : w3.cell? ⟨BM, 3, none⟩ = some (.slice (some ⟨nb, noff, none⟩) l.length nc) := by rw [cell_of_blk b3]; rfl
 have m4 : w3.cell? ⟨BM, 4, none⟩ = some (.slice da dl dc) := by rw [cell_of_blk b3]; rfl
 have hnbr : nb ≠ r := fun e => hnbF (by
  obtain ⟨_, _, ⟨_, _, _, _, _, _, k1, k2, _⟩, _, _⟩ := H.out.is
  exact e ▸ k2 r (.inr (.inr k1.self)))
 have xs : Ext (fun b => b = r) w3 ((w3.setCell ⟨r, 7, none⟩ (.int .i64 0)).setCell ⟨r, 8, none⟩ (.int .i64 (-1))) := ((Ext.refl (fun b => b = r) w3).setCell (p := ⟨r, 7, none⟩) (.inl rfl) _).setCell (p := ⟨r, 8, none⟩) (.inl rfl) _
 have r4 := RaftIs.set (N' := N.newer_ t0) r3 xs (fun L tv hb => blk_setCell (blk_setCell hb 7 _) 8 _) rfl ⟨hi1, hi2⟩ hcm rfl rfl
 have b4 := xs.blk b3 hBMr
 have Hb4 := Lib.hid b4
 have Hr4 := Lib.hid r4.1
 have Hx4 := Lib.hid r4.2
 have Hx3 := Lib.hid x3
 have hFF : ∀ b, Gr F w2 w3 b → b < w.heap.size → F b := fun b hb hl => hb.elim (fun h => h) (fun h => by have := Hx02.out.size; omega)
 have hgn : ¬ Gr F w2 w3 nb := fun hg => hnbF (hFF nb hg hnbl)
 have hn4 : Rd ((w3.setCell ⟨r, 7, none⟩ (.int .i64 0)).setCell ⟨r, 8, none⟩ (.int .i64 (-1))) 1 (.slice (some ⟨nb, noff, none⟩) l.length nc) (intsV l) := ((Hn.out.no Hx02.out).ext x3 (fun g hg => by cases hg; exact hnbF)).ext xs (fun g hg => by cases hg; exact hnbr)
 have Hn4 := Lib.hid hn4
 clear r4 r3 b3 hb3 b4 x3 xs dM3 d5 dn0 hn4
 go_wp2_with fail
 have y04 := (((Hx02.out.of_no).trans Hx3.out)).next Hx4.out (fun b h hb => hFF b h hb)
 refine (Hdo.out _ _ y04 (fun b hb => hb.elim .inl (fun h => .inr (by have := Hx02.out.size; omega))) Hr4.out).mono ?_; rintro e w5 hS
 have hltG := Hr4.out.lt
 obtain ⟨v, rfl, hm, hf, hx, hR⟩ := hS
 obtain ⟨ms, hms, hown⟩ := hm
 obtain ⟨va, vn, vc, rfl, _⟩ := hown.rd
 have Hm := Lib.hid hms
 have Ho := Lib.hid hown
 have Hf := Lib.hid hf
 have Hx := Lib.hid hx
 have HR := Lib.hid hR
 clear hms hown hf hx hR hltG
 go_wp2_with fail
 go_ret
 have x03 : Ext F w w3 := (Hx02.out.of_no).trans Hx3.out
 have x04 := x03.next Hx4.out (fun b h hb => hFF b h hb)
 have x05 := x04.next Hx.out (fun b h hb => hFF b h hb)
 have s3 := x03.size
 have s4 := x04.size
 have s45 := Hx.out.size
 have s34 := Hx4.out.size
 have s02 := Hx02.out.size
 have s23 := Hx3.out.size
 refine ⟨_, rfl, ⟨ms, Hm.out, Ho.out⟩, fun g hg => by have := Hf.out g hg; omega, x05, HR.out.wide (fun b hb => ?_) (fun b hb => ?_)⟩
 ·rcases hb with (hb | hb) | hb
  ·exact .inl hb
  ·exact .inr (by omega)
  ·exact .inr ⟨by omega, hb.2⟩
 ·rcases hb with hb | hb
  ·exact Nat.lt_of_lt_of_le (H.out.lt b hb) x05.size
  ·exact hb.2
set_option maxRecDepth 100000 in
set_option maxHeartbeats 4000000 in
theorem Hear_new3 (r d : Nat) (F : Nat → Prop) (N N' : PNode) (room : Nat) (saved : Bool) (Ms : List PMsg) (fr tt draw : Int) (t0 : Nat) (na da : Option Addr) (nc dl dc : Nat) (l : List Int) (w : World) (h : RaftIs w r d F N room saved)
  (hn : Rd w 1 (.slice na l.length nc) (intsV l)) (hoff : Off F (.slice na l.length nc)) (h0 : l[0]? = some (t0 : Int)) (hgt : N.term < t0) (ht0 : t0 ≤ 1099511627776) (hroom : N.bytes + 100 ≤ room)
  (hmay : ∀ w1, Ext NoB w w1 → Calls Tryz.prog 45 #[.pointer (some ⟨r, 0, none⟩), msgV fr tt 3 (.slice na l.length nc) (.slice da dl dc)] w1 (MayEnds true w1))
  (hdo : ∀ w1 F1, Ext F w w1 → (∀ b, F1 b → F b ∨ w.heap.size ≤ b) → RaftIs w1 r d F1 (N.newer_ t0) room true → Calls Tryz.prog 49 #[.pointer (some ⟨r, 0, none⟩), msgV fr tt 3 (.slice na l.length nc) (.slice da dl dc), .int .i64 draw] w1 (Sends r d F1 w1 Ms N' room true)) :
  Calls Tryz.prog 19 #[.pointer (some ⟨r, 0, none⟩), msgV fr tt 3 (.slice na l.length nc) (.slice da dl dc), .int .i64 draw] w (Sends r d F w Ms N' room true) := by
 obtain ⟨L, tv, hb, hi1, hi2, hcm, hll⟩ := h.cells
 have hlp : 0 < l.length := (List.getElem?_eq_some_iff.1 h0).1
 obtain ⟨nb, noff, rfl, hcell⟩ := nums_cell hn hlp
 have hnbF : ¬ F nb := hoff nb rfl
 have cn0 : w.cell? ⟨nb, noff, none⟩ = some (.int .i64 t0) := hcell 0 t0 h0
 have hnbl : nb < w.heap.size := World.block_lt_of_cell? w _ cn0
 have c5 : w.cell? ⟨r, 5, none⟩ = some (.int .i64 N.term) := by rw [cell_of_blk hb]; rfl
 have c23 : w.cell? ⟨r, 23, none⟩ = some (.bool false) := by rw [cell_of_blk hb]; rfl
 have hlp2 : (0 : Int) < (l.length : Int) := by omega
 have hgt2 : (N.term : Int) < (t0 : Int) := by omega
 have hrl := lt_of_blk hb
 have H := Lib.hid h
 have Hn := Lib.hid hn
 have Hmay := Lib.hid hmay
 have Hdo := Lib.hid hdo
 have Hturn := Lib.hid (fun (w' : World) (x : Ext NoB w w') => turns_any r d F N room saved t0 (-1) w' (h.no x) ht0 (by omega) hroom)
 clear h hb hn hcell h0 hmay hdo hoff
 unfold msgV
 go_enter Tryz.func19, Tryz.ntmps19
 go_wp2_with fail
 obtain ⟨w1, BM, e1, e2, x1, b1, hs1⟩ := alloc_facts w (.cells #[.int .i64 fr, .int .i64 tt, .int .i64 3, .slice (some ⟨nb, noff, none⟩) l.length nc, .slice da dl dc] 37)
 rw [e1, e2]
 have hBMF : ¬ F BM := fun hf => by have := H.out.lt BM hf; omega
 refine (Hmay.out w1 x1).mono ?_; rintro e w2 ⟨rfl, x2⟩
 have x02 := x1.trans x2
 have b2 := x2.blk b1 (fun h => h)
 have dM3 : w2.cell? ⟨BM, 3, none⟩ = some (.slice (some ⟨nb, noff, none⟩) l.length nc) := by rw [cell_of_blk b2]; rfl
 have d5 := x02.cell c5 (fun h => h)
 have dn0 := x02.cell cn0 (fun h => h)
 have Hx02 := Lib.hid x02
 have Hb2 := Lib.hid b2
 have hBM2 : BM < w2.heap.size := lt_of_blk b2
 clear e1 x1 b1 hs1 x2 x02 b2 c5 cn0 c23
 go_wp2_with fail
 refine (Hturn.out w2 Hx02.out).mono ?_; rintro e w3 ⟨rfl, x3, r3⟩
 have b3 := x3.blk Hb2.out hBMF
 obtain ⟨L3, tv3, hb3, _, _, _, _⟩ := r3.cells
 have d7 : w3.cell? ⟨r, 7, none⟩ = some (.int .i64 N.role) := by rw [cell_of_blk hb3]; rfl
 have d8 : w3.cell? ⟨r, 8, none⟩ = some (.int .i64 N.leader) := by rw [cell_of_blk hb3]; rfl
 have f7 : w3.frozen? ⟨r, 7, none⟩ = false := frozen_of_blk hb3 7
 have f8 : w3.frozen? ⟨r, 8, none⟩ = false := frozen_of_blk hb3 8
 have hBMr : BM ≠ r := by omega
 have m0 : w3.cell? ⟨BM, 0, none⟩ = some (.int .i64 fr) := by rw [cell_of_blk b3]; rfl
 have m1 : w3.cell? ⟨BM, 1, none⟩ = some (.int .i64 tt) := by rw [cell_of_blk b3]; rfl
 have m2 : w3.cell? ⟨BM, 2, none⟩ = some (.int .i64 3) := by rw [cell_of_blk b3]; rfl
 have m3 : w3.cell? ⟨BM, 3, none⟩ = some (.slice (some ⟨nb, noff, none⟩) l.length nc) := by rw [cell_of_blk b3]; rfl
 have m4 : w3.cell? ⟨BM, 4, none⟩ = some (.slice da dl dc) := by rw [cell_of_blk b3]; rfl
 have hnbr : nb ≠ r := fun e => hnbF (by
  obtain ⟨_, _, ⟨_, _, _, _, _, _, k1, k2, _⟩, _, _⟩ := H.out.is
  exact e ▸ k2 r (.inr (.inr k1.self)))
 have xs : Ext (fun b => b = r) w3 ((w3.setCell ⟨r, 7, none⟩ (.int .i64 0)).setCell ⟨r, 8, none⟩ (.int .i64 (-1))) := ((Ext.refl (fun b => b = r) w3).setCell (p := ⟨r, 7, none⟩) (.inl rfl) _).setCell (p := ⟨r, 8, none⟩) (.inl rfl) _
 have r4 := RaftIs.set (N' := N.newer_ t0) r3 xs (fun L tv hb => blk_setCell (blk_setCell hb 7 _) 8 _) rfl ⟨hi1, hi2⟩ hcm rfl rfl
 have b4 := xs.blk b3 hBMr
 have Hb4 := Lib.hid b4
 have Hr4 := Lib.hid r4.1
 have Hx4 := Lib.hid r4.2
 have Hx3 := Lib.hid x3
 have hFF : ∀ b, Gr F w2 w3 b → b < w.heap.size → F b := fun b hb hl => hb.elim (fun h => h) (fun h => by have := Hx02.out.size; omega)
 have hgn : ¬ Gr F w2 w3 nb := fun hg => hnbF (hFF nb hg hnbl)
 have hn4 : Rd ((w3.setCell ⟨r, 7, none⟩ (.int .i64 0)).setCell ⟨r, 8, none⟩ (.int .i64 (-1))) 1 (.slice (some ⟨nb, noff, none⟩) l.length nc) (intsV l) := ((Hn.out.no Hx02.out).ext x3 (fun g hg => by cases hg; exact hnbF)).ext xs (fun g hg => by cases hg; exact hnbr)
 have Hn4 := Lib.hid hn4
 clear r4 r3 b3 hb3 b4 x3 xs dM3 d5 dn0 hn4
 go_wp2_with fail
 have y04 := (((Hx02.out.of_no).trans Hx3.out)).next Hx4.out (fun b h hb => hFF b h hb)
 refine (Hdo.out _ _ y04 (fun b hb => hb.elim .inl (fun h => .inr (by have := Hx02.out.size; omega))) Hr4.out).mono ?_; rintro e w5 hS
 have hltG := Hr4.out.lt
 obtain ⟨v, rfl, hm, hf, hx, hR⟩ := hS
 obtain ⟨ms, hms, hown⟩ := hm
 obtain ⟨va, vn, vc, rfl, _⟩ := hown.rd
 have Hm := Lib.hid hms
 have Ho := Lib.hid hown
 have Hf := Lib.hid hf
 have Hx := Lib.hid hx
 have HR := Lib.hid hR
 clear hms hown hf hx hR hltG
 go_wp2_with fail
 go_ret
 have x03 : Ext F w w3 := (Hx02.out.of_no).trans Hx3.out
 have x04 := x03.next Hx4.out (fun b h hb => hFF b h hb)
 have x05 := x04.next Hx.out (fun b h hb => hFF b h hb)
 have s3 := x03.size
 have s4 := x04.size
 have s45 := Hx.out.size
 have s34 := Hx4.out.size
 have s02 := Hx02.out.size
 have s23 := Hx3.out.size
 refine ⟨_, rfl, ⟨ms, Hm.out, Ho.out⟩, fun g hg => by have := Hf.out g hg; omega, x05, HR.out.wide (fun b hb => ?_) (fun b hb => ?_)⟩
 ·rcases hb with (hb | hb) | hb
  ·exact .inl hb
  ·exact .inr (by omega)
  ·exact .inr ⟨by omega, hb.2⟩
 ·rcases hb with hb | hb
  ·exact Nat.lt_of_lt_of_le (H.out.lt b hb) x05.size
  ·exact hb.2
set_option maxRecDepth 100000 in
set_option maxHeartbeats 4000000 in
theorem Hear_new4 (r d : Nat) (F : Nat → Prop) (N N' : PNode) (room : Nat) (saved : Bool) (Ms : List PMsg) (fr tt draw : Int) (t0 : Nat) (na da : Option Addr) (nc dl dc : Nat) (l : List Int) (w : World) (h : RaftIs w r d F N room saved)
  (hn : Rd w 1 (.slice na l.length nc) (intsV l)) (hoff : Off F (.slice na l.length nc)) (h0 : l[0]? = some (t0 : Int)) (hgt : N.term < t0) (ht0 : t0 ≤ 1099511627776) (hroom : N.bytes + 100 ≤ room)
  (hmay : ∀ w1, Ext NoB w w1 → Calls Tryz.prog 45 #[.pointer (some ⟨r, 0, none⟩), msgV fr tt 4 (.slice na l.length nc) (.slice da dl dc)] w1 (MayEnds true w1))
  (hdo : ∀ w1 F1, Ext F w w1 → (∀ b, F1 b → F b ∨ w.heap.size ≤ b) → RaftIs w1 r d F1 (N.newer_ t0) room true → Calls Tryz.prog 50 #[.pointer (some ⟨r, 0, none⟩), msgV fr tt 4 (.slice na l.length nc) (.slice da dl dc)] w1 (Sends r d F1 w1 Ms N' room true)) :
  Calls Tryz.prog 19 #[.pointer (some ⟨r, 0, none⟩), msgV fr tt 4 (.slice na l.length nc) (.slice da dl dc), .int .i64 draw] w (Sends r d F w Ms N' room true) := by
 obtain ⟨L, tv, hb, hi1, hi2, hcm, hll⟩ := h.cells
 have hlp : 0 < l.length := (List.getElem?_eq_some_iff.1 h0).1
 obtain ⟨nb, noff, rfl, hcell⟩ := nums_cell hn hlp
 have hnbF : ¬ F nb := hoff nb rfl
 have cn0 : w.cell? ⟨nb, noff, none⟩ = some (.int .i64 t0) := hcell 0 t0 h0
 have hnbl : nb < w.heap.size := World.block_lt_of_cell? w _ cn0
 have c5 : w.cell? ⟨r, 5, none⟩ = some (.int .i64 N.term) := by rw [cell_of_blk hb]; rfl
 have c23 : w.cell? ⟨r, 23, none⟩ = some (.bool false) := by rw [cell_of_blk hb]; rfl
 have hlp2 : (0 : Int) < (l.length : Int) := by omega
 have hgt2 : (N.term : Int) < (t0 : Int) := by omega
 have hrl := lt_of_blk hb
 have H := Lib.hid h
 have Hn := Lib.hid hn
 have Hmay := Lib.hid hmay
 have Hdo := Lib.hid hdo
 have Hturn := Lib.hid (fun (w' : World) (x : Ext NoB w w') => turns_any r d F N room saved t0 (-1) w' (h.no x) ht0 (by omega) hroom)
 clear h hb hn hcell h0 hmay hdo hoff
 unfold msgV
 go_enter Tryz.func19, Tryz.ntmps19
 go_wp2_with fail
 obtain ⟨w1, BM, e1, e2, x1, b1, hs1⟩ := alloc_facts w (.cells #[.int .i64 fr, .int .i64 tt, .int .i64 4, .slice (some ⟨nb, noff, none⟩) l.length nc, .slice da dl dc] 37)
 rw [e1, e2]
 have hBMF : ¬ F BM := fun hf => by have := H.out.lt BM hf; omega
 refine (Hmay.out w1 x1).mono ?_; rintro e w2 ⟨rfl, x2⟩
 have x02 := x1.trans x2
 have b2 := x2.blk b1 (fun h => h)
 have dM3 : w2.cell? ⟨BM, 3, none⟩ = some (.slice (some ⟨nb, noff, none⟩) l.length nc) := by rw [cell_of_blk b2]; rfl
 have d5 := x02.cell c5 (fun h => h)
 have dn0 := x02.cell cn0 (fun h => h)
 have Hx02 := Lib.hid x02
 have Hb2 := Lib.hid b2
 have hBM2 : BM < w2.heap.size := lt_of_blk b2
 clear e1 x1 b1 hs1 x2 x02 b2 c5 cn0 c23
 go_wp2_with fail
 refine (Hturn.out w2 Hx02.out).mono ?_; rintro e w3 ⟨rfl, x3, r3⟩
 have b3 := x3.blk Hb2.out hBMF
 obtain ⟨L3, tv3, hb3, _, _, _, _⟩ := r3.cells
 have d7 : w3.cell? ⟨r, 7, none⟩ = some (.int .i64 N.role) := by rw [cell_of_blk hb3]; rfl
 have d8 : w3.cell? ⟨r, 8, none⟩ = some (.int .i64 N.leader) := by rw [cell_of_blk hb3]; rfl
 have f7 : w3.frozen? ⟨r, 7, none⟩ = false := frozen_of_blk hb3 7
 have f8 : w3.frozen? ⟨r, 8, none⟩ = false := frozen_of_blk hb3 8
 have hBMr : BM ≠ r := by omega
 have m0 : w3.cell? ⟨BM, 0, none⟩ = some (.int .i64 fr) := by rw [cell_of_blk b3]; rfl
 have m1 : w3.cell? ⟨BM, 1, none⟩ = some (.int .i64 tt) := by rw [cell_of_blk b3]; rfl
 have m2 : w3.cell? ⟨BM, 2, none⟩ = some (.int .i64 4) := by rw [cell_of_blk b3]; rfl
 have m3 : w3.cell? ⟨BM, 3, none⟩ = some (.slice (some ⟨nb, noff, none⟩) l.length nc) := by rw [cell_of_blk b3]; rfl
 have m4 : w3.cell? ⟨BM, 4, none⟩ = some (.slice da dl dc) := by rw [cell_of_blk b3]; rfl
 have hnbr : nb ≠ r := fun e => hnbF (by
  obtain ⟨_, _, ⟨_, _, _, _, _, _, k1, k2, _⟩, _, _⟩ := H.out.is
  exact e ▸ k2 r (.inr (.inr k1.self)))
 have xs : Ext (fun b => b = r) w3 ((w3.setCell ⟨r, 7, none⟩ (.int .i64 0)).setCell ⟨r, 8, none⟩ (.int .i64 (-1))) := ((Ext.refl (fun b => b = r) w3).setCell (p := ⟨r, 7, none⟩) (.inl rfl) _).setCell (p := ⟨r, 8, none⟩) (.inl rfl) _
 have r4 := RaftIs.set (N' := N.newer_ t0) r3 xs (fun L tv hb => blk_setCell (blk_setCell hb 7 _) 8 _) rfl ⟨hi1, hi2⟩ hcm rfl rfl
 have b4 := xs.blk b3 hBMr
 have Hb4 := Lib.hid b4
 have Hr4 := Lib.hid r4.1
 have Hx4 := Lib.hid r4.2
 have Hx3 := Lib.hid x3
 have hFF : ∀ b, Gr F w2 w3 b → b < w.heap.size → F b := fun b hb hl => hb.elim (fun h => h) (fun h => by have := Hx02.out.size; omega)
 have hgn : ¬ Gr F w2 w3 nb := fun hg => hnbF (hFF nb hg hnbl)
 have hn4 : Rd ((w3.setCell ⟨r, 7, none⟩ (.int .i64 0)).setCell ⟨r, 8, none⟩ (.int .i64 (-1))) 1 (.slice (some ⟨nb, noff, none⟩) l.length nc) (intsV l) := ((Hn.out.no Hx02.out).ext x3 (fun g hg => by cases hg; exact hnbF)).ext xs (fun g hg => by cases hg; exact hnbr)
 have Hn4 := Lib.hid hn4
 clear r4 r3 b3 hb3 b4 x3 xs dM3 d5 dn0 hn4
 go_wp2_with fail
 have y04 := (((Hx02.out.of_no).trans Hx3.out)).next Hx4.out (fun b h hb => hFF b h hb)
 refine (Hdo.out _ _ y04 (fun b hb => hb.elim .inl (fun h => .inr (by have := Hx02.out.size; omega))) Hr4.out).mono ?_; rintro e w5 hS
 have hltG := Hr4.out.lt
 obtain ⟨v, rfl, hm, hf, hx, hR⟩ := hS
 obtain ⟨ms, hms, hown⟩ := hm
 obtain ⟨va, vn, vc, rfl, _⟩ := hown.rd
 have Hm := Lib.hid hms
 have Ho := Lib.hid hown
 have Hf := Lib.hid hf
 have Hx := Lib.hid hx
 have HR := Lib.hid hR
 clear hms hown hf hx hR hltG
 go_wp2_with fail
 go_ret
 have x03 : Ext F w w3 := (Hx02.out.of_no).trans Hx3.out
 have x04 := x03.next Hx4.out (fun b h hb => hFF b h hb)
 have x05 := x04.next Hx.out (fun b h hb => hFF b h hb)
 have s3 := x03.size
 have s4 := x04.size
 have s45 := Hx.out.size
 have s34 := Hx4.out.size
 have s02 := Hx02.out.size
 have s23 := Hx3.out.size
 refine ⟨_, rfl, ⟨ms, Hm.out, Ho.out⟩, fun g hg => by have := Hf.out g hg; omega, x05, HR.out.wide (fun b hb => ?_) (fun b hb => ?_)⟩
 ·rcases hb with (hb | hb) | hb
  ·exact .inl hb
  ·exact .inr (by omega)
  ·exact .inr ⟨by omega, hb.2⟩
 ·rcases hb with hb | hb
  ·exact Nat.lt_of_lt_of_le (H.out.lt b hb) x05.size
  ·exact hb.2
set_option maxRecDepth 100000 in
set_option maxHeartbeats 2000000 in
theorem may_ents (r d : Nat) (F : Nat → Prop) (N : PNode) (D : PDisk) (ps : List PSeg) (fr : Nat) (na da : Option Addr) (nc dl dc b : Nat) (es : List (Nat × List UInt8)) (l : List Int) (w : World) (h : NodeIs w r d F N D ps) (hfr : fr < N.n) (hne : fr ≠ N.id)
  (hn : Rd w 1 (.slice na l.length nc) (intsV l)) (hl : l.length ≤ 1000000000) (hg : goodB l 4 = true) (hsent : ∀ w', Ext NoB w w' → Calls Tryz.prog 84 #[.slice da dl dc] w' (SentEnds b es w')) :
  Calls Tryz.prog 45 #[.pointer (some ⟨r, 0, none⟩), msgV fr N.id 3 (.slice na l.length nc) (.slice da dl dc)] w (MayEnds (true) w) := by
 obtain ⟨L, FD, FL, FR, tv, dl', hA, _⟩ := h
 have hb := hA.blk
 have c0 : w.cell? ⟨r, 0, none⟩ = some (.int .i64 N.id) := by rw [cell_of_blk hb]; rfl
 have c1 : w.cell? ⟨r, 1, none⟩ = some (.int .i64 N.n) := by rw [cell_of_blk hb]; rfl
 have hrl := lt_of_blk hb
 have hn5 := hA.idn.2
 have hb1 : ((N.id : Int) != (N.id : Int)) = false := by simp
 have hb2 : decide ((fr : Int) < 0) = false := decide_eq_false (by omega)
 have hb3 : decide ((N.n : Int) ≤ (fr : Int)) = false := decide_eq_false (by omega)
 have hb4 : ((fr : Int) == (N.id : Int)) = false := beq_eq_false_iff_ne.2 (by omega)
 have hgood := Lib.hid (fun (k : Int) (w' : World) (x : Ext NoB w w') => good_any na nc l k w' (hn.no x) hl)
 have HN := Lib.hid hn
 have Hsent := Lib.hid hsent
 clear hA hb hn hsent
 unfold msgV
 have hlen : l.length = 4 := by
  have h1 := hg
  unfold goodB at h1
  simp only [Bool.and_eq_true, decide_eq_true_eq] at h1
  omega
 have Hg := Lib.hid hg
 have Hlen := Lib.hid hlen
 clear hg hlen
 go_enter Tryz.func45, Tryz.ntmps45
 go_wp2_with fail
 go_quiet (fail)
 go_wp2_with fail
 refine (Hsent.out _ (((Ext.refl NoB w).alloc _).drewN _)).mono ?_; rintro e w1 ⟨v5, ms, rfl, _, hown, _, x1⟩
 obtain ⟨va, vn, vc, rfl, _⟩ := hown.rd
 clear hown
 have cB := x1.cell (p := ⟨w.heap.size, 3, none⟩) (v := .slice na l.length nc) (by rw [cell_of_blk (blk_drewN (blk_new w _) _)]; rfl) (fun h => h)
 have x01 : Ext NoB w w1 := (((Ext.refl NoB w).alloc _).drewN _).trans x1
 have Hx := Lib.hid x01
 clear x1 x01
 go_wp2_with fail
 refine (hgood.out 4 _ Hx.out).mono ?_; rintro e w2 ⟨rfl, rfl⟩
 rw [Hg.out]
 go_wp2_with fail
 go_ret
 exact ⟨retBool rfl, Hx.out⟩
def NodeDisk (D : PDisk) (N : PNode) (room : Nat) (s : Bool) (ps : List PSeg) : Prop :=
 D.room = room ∧ D.files.Perm (canon (if s then some (N.term, N.vote) else none) ps) ∧ Chain 1 ps (N.log.length + 1) ∧ N.log.length < 100 ∧ (ps.map (·.es)).flatten = N.log.map entB
theorem Crash_any (r d : Nat) (F : Nat → Prop) (N : PNode) (room : Nat) (s : Bool) (draw : Int) (w : World) (h : RaftIs w r d F N room s) :
  Calls Tryz.prog 20 #[.pointer (some ⟨d, 0, none⟩), .int .i64 draw] w fun e w' => e = .returned (.tuple #[]) ∧ Ext F w w' ∧ ∃ D ps, DiskIs w' d (Gr F w w') D ∧ NodeDisk D N room s ps := by
 obtain ⟨D, ps, ⟨L, FD, FL, FR, tv, dl, hA, hF, hlt⟩, hrm, hperm⟩ := h.is
 have hcnt := (canon_room hA hperm).2
 have hlen := hA.len
 have hcoh := hA.coh
 have hch : Chain 1 ps (N.log.length + 1) := by
  obtain ⟨sv, rs, l1, l2, _⟩ := hA.store.log
  have := l1.chain
  rwa [l2] at this
 refine (Crash_whole d FD D draw w hA.store.disk (fun p hp => canon_whole _ _ p (hperm.mem_iff.1 hp)) hcnt).mono ?_
 rintro e w' ⟨rfl, x, hd⟩
 exact ⟨rfl, x.mono (fun b _ hb => hF b (.inl hb)), D, ps, hd.wide (fun b hb => hb.elim (fun h => .inl (hF b (.inl h))) .inr) (fun b hb => hb.elim (fun h => Nat.lt_of_lt_of_le (hlt b h) x.size) (fun h => h.2)), hrm, hperm, hch, hlen, hcoh⟩
end Go.Proofs.YtgglbholbkdgfaaGreatDoor
