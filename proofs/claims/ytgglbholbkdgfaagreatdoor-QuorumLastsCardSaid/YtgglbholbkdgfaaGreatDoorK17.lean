/- Joined texts: B85 B86 B84. Each has its own head. -/
import Derived.Test.YtgglbholbkdgfaaGreatDoorK8
import Derived.Test.YtgglbholbkdgfaaGreatDoorK6
import Derived.Test.YtgglbholbkdgfaaGreatDoorK16
import Derived.Test.YtgglbholbkdgfaaGreatDoorK9
set_option linter.unusedVariables false
set_option linter.unusedSimpArgs false
namespace Go.Proofs.YtgglbholbkdgfaaGreatDoor
open Go.RowKit
def EntsNew (w w' : World) (v : Value) (es : List (Nat × List UInt8)) : Prop := ∃ ms, EntRows w' ms es ∧ Own w' 50 2 v ms.flatten ∧ ∀ u ∈ ms.flatten, ∀ g, u.ownBlock = some g → w.heap.size ≤ g
theorem EntIs.ext' {w w' : World} {G : Nat → Prop} {m : List Value} {e : Nat × List UInt8} (h : EntIs w m e) (x : Ext G w w') (hG : ∀ u ∈ m, ∀ g, u.ownBlock = some g → ¬ G g) : EntIs w' m e := by
 obtain ⟨dv, rfl, ho⟩ := h
 exact ⟨dv, rfl, ho.ext x (fun g hg => hG dv (by simp) g hg)⟩
theorem EntRows.ext' {w w' : World} {G : Nat → Prop} {ms : List (List Value)} {es : List (Nat × List UInt8)} (h : EntRows w ms es) (x : Ext G w w') (hG : ∀ u ∈ ms.flatten, ∀ g, u.ownBlock = some g → ¬ G g) : EntRows w' ms es := by
 induction h with
 | nil => exact .nil
 | snoc _ h2 ih =>
  refine .snoc (ih fun u hu => hG u (by rw [List.flatten_append]; exact List.mem_append_left _ hu)) (h2.ext' x fun u hu => hG u ?_)
  rw [List.flatten_append, List.flatten_cons, List.flatten_nil, List.append_nil]
  exact List.mem_append_right _ hu
set_option maxRecDepth 100000 in
set_option maxHeartbeats 4000000 in
theorem Take_new (r d : Nat) (F : Nat → Prop) (N : PNode) (room : Nat) (saved : Bool) (w : World) (h : RaftIs w r d F N room saved) (hok : N.Ok) (htk : N.taken ≤ N.committed) :
  Calls Tryz.prog 21 #[.pointer (some ⟨r, 0, none⟩)] w fun e w' => ∃ v, e = .returned v ∧ EntsNew w w' v ((N.log.take N.committed).drop N.taken) ∧ Fresh w v ∧ Ext F w w' ∧ RaftIs w' r d F (N.takes N.committed) room saved := by
 obtain ⟨L, tv, hb, hi1, hi2, hcm, hl100⟩ := h.cells
 have c23 : w.cell? ⟨r, 23, none⟩ = some (.bool false) := by rw [cell_of_blk hb]; rfl
 have H := Lib.hid h
 have Hok := Lib.hid hok
 obtain ⟨cm, hcmE⟩ : ∃ cm, N.committed = cm := ⟨_, rfl⟩
 obtain ⟨tk, htkE⟩ : ∃ tk, N.taken = tk := ⟨_, rfl⟩
 rw [hcmE, htkE] at htk
 rw [hcmE] at hcm
 rw [hcmE, htkE]
 have HcmE := Lib.hid hcmE
 have HtkE := Lib.hid htkE
 clear h hb hok hcmE htkE
 go_enter Tryz.func21, Tryz.ntmps21
 go_wp2_with fail
 go_loopw [3] (fun v wr => ∃ k : Nat, tk ≤ k ∧ k ≤ cm ∧ Hid (RaftIs wr r d F (N.takes k) room saved) ∧ Hid (EntsNew w wr v ((N.log.take k).drop tk)) ∧ Fresh w v ∧ Hid (Ext F w wr)) (fun _ wr => match wr.cell? ⟨r, 10, none⟩ with | some (.int _ i) => cm - i.toNat | _ => 0)
 case atStart => exact ⟨tk, Nat.le_refl _, htk, Lib.hid (by rw [← HtkE.out]; exact H.out), Lib.hid ⟨[], by rw [List.drop_of_length_le (by simp; omega)]; exact .nil, Own.nil _ _ _, fun u hu => by cases hu⟩, Fresh.nil _ _ _, Lib.hid (Ext.refl _ _)⟩
 case round =>
  obtain ⟨k, hk1, hk2, HR, HE, hfr, HX⟩ := hrel
  obtain ⟨L', tv', hb', _, _, _, _⟩ := HR.out.cells
  have d10 : wr.cell? ⟨r, 10, none⟩ = some (.int .i64 k) := by rw [cell_of_blk hb']; rfl
  have d9 : wr.cell? ⟨r, 9, none⟩ = some (.int .i64 cm) := by rw [cell_of_blk hb', ← HcmE.out]; rfl
  obtain ⟨ms, hms, hown, hnew0⟩ := HE.out
  have Hnew0 := Lib.hid hnew0
  have hmlen := hms.len
  obtain ⟨va, vn, vc, rfl, hvl, _, _, _, _⟩ := hown.rd
  have Hown := Lib.hid hown
  have Hms := Lib.hid hms
  have Hml := Lib.hid hmlen
  have Hb' := Lib.hid hb'
  have Hfr := Lib.hid hfr
  clear hb' hown hms hmlen hvl hfr hnew0
  by_cases hlt : k < cm
  ·go_wp2_with fail
   go_quiet (fail)
   go_wp2_with fail
   have xd : Ext NoB wr (wr.drewN nq) := (Ext.refl _ wr).drewN _
   generalize wr.drewN nq = w1 at xd ⊢
   obtain ⟨D, ps, hN, hrm, hperm⟩ := HR.out.is
   obtain ⟨⟨et, ed⟩, hent⟩ : ∃ e, N.log[k]? = some e := ⟨_, List.getElem?_eq_getElem (by omega)⟩
   obtain ⟨het, hed⟩ := Hok.out (et, ed) (List.mem_of_getElem? hent)
   have Hsn := Lib.hid (take_snoc_drop N.log tk k (et, ed) hk1 hent)
   have Hent := Lib.hid (entry_any r d F (N.takes k) D ps (k + 1) et ed w1 (hN.no xd) (by omega) hent het hed)
   have Hxd := Lib.hid xd
   clear xd hN hrm hperm hent
   refine Hent.out.mono ?_; rintro e w2 ⟨dv, rfl, od, fd, x2⟩
   obtain ⟨da, dc, rfl, hd1, hd2⟩ := RdB.shape (l := ed) od.rd
   have hei : EntIs w2 [.int .i64 et, .slice da ed.length dc] (et, ed) := ⟨_, rfl, od⟩
   have Hei := Lib.hid hei
   have Hfd := Lib.hid fd
   have xA : Ext NoB w2 (w2.alloc (.cells #[.int .i64 et, .slice da ed.length dc] 50)) := (Ext.refl _ w2).alloc _
   have hsrc := Src.row (P := Tryz.prog) unEnts w2.heap.size 2 [.int .i64 et, .slice da ed.length dc] 50 (0, 0) (blk_new w2 (.cells #[.int .i64 et, .slice da ed.length dc] 50)) rfl hei.one.2
   have Hsrc := Lib.hid hsrc
   have x02 := Hxd.out.trans x2
   have HoA := Lib.hid ((Hown.out.no x02).no xA)
   have hbd : (ms.flatten.length + [Value.int .i64 et, .slice da ed.length dc].length) * 32 ≤ 140737488355328 := by
    rw [Hml.out]
    simp only [List.length_cons, List.length_nil, List.length_drop, List.length_take]
    omega
   have Hbd := Lib.hid hbd
   have Hx02 := Lib.hid x02
   clear od fd hei hsrc hbd x02 x2
   go_wp2_with (at_builtin; refine wpList_app _ rfl (.tmp 28) (.tmp 36) 45 45 rfl 50 2 32 unEnts elEnt HoA.out Hsrc.out rfl rfl Hbd.out (by decide) ?_; intro v' w' o' x' h'; refine halt2 (fun _K HK => ?_))
   have xm : Ext (fun g => (Value.slice va vn vc).ownBlock = some g) w2 w' := (xA.of_no).trans x'
   have hty : ∀ g, (Value.slice va vn vc).ownBlock = some g → g < w2.heap.size → ∃ cs fr, w2.heap[g]? = some (.cells cs 50 fr) := fun g hg _ => own_type (Hown.out.no Hx02.out) g hg
   have hrows : EntRows w' (ms ++ [[.int .i64 et, .slice da ed.length dc]]) ((N.log.take (k + 1)).drop tk) := by
    rw [Hsn.out]
    exact .snoc ((Hms.out.ext (T := 0) (by decide) Hx02.out (fun _ h _ => h.elim)).ext (T := 50) (by decide) xm hty) (Hei.out.ext (T := 50) (by decide) xm hty)
   have hnew : EntsNew w w' v' ((N.log.take (k + 1)).drop tk) := ⟨_, hrows, by rw [List.flatten_append, List.flatten_cons, List.flatten_nil, List.append_nil]; exact o', fun u hu g hg => by
    rw [List.flatten_append, List.flatten_cons, List.flatten_nil, List.append_nil, List.mem_append] at hu
    rcases hu with hu | hu
    ·exact Hnew0.out u hu g hg
    ·simp only [List.mem_cons, List.not_mem_nil, or_false] at hu
     rcases hu with rfl | rfl
     ·cases hg
     ·have h1 := Hfd.out g hg
      have h2 := HX.out.size
      have h3 := Hxd.out.size
      omega⟩
   have hf' : Fresh w v' := Hfr.out.app (Nat.le_trans HX.out.size (Nat.le_trans Hx02.out.size xA.size)) h'
   have hb2 := Hx02.out.blk Hb'.out (fun h => h)
   have hvr : ¬ ((Value.slice va vn vc).ownBlock = some r) := fun hg => (Hown.out.no Hx02.out).ne_blk hb2 (by decide) r hg rfl
   have hbm := xm.blk hb2 hvr
   have d10' : w'.cell? ⟨r, 10, none⟩ = some (.int .i64 k) := by rw [cell_of_blk hbm]; rfl
   have f10' : w'.frozen? ⟨r, 10, none⟩ = false := frozen_of_blk hbm 10
   have hR' : RaftIs w' r d F (N.takes k) room saved := (HR.out.no Hx02.out).ext xm (fun b hb hg => by have := H.out.lt b hb; have := Hfr.out b hg; omega)
   have hX' : Ext F w w' := (HX.out.nextNo Hx02.out).next xm (fun g hg hl => by have := Hfr.out g hg; omega)
   have hor : ∀ g, v'.ownBlock = some g → r ≠ g := fun g hg => o'.ne_blk hbm (by decide) g hg
   obtain ⟨a', n', c', rfl, _⟩ := o'.rd
   have Hnew := Lib.hid hnew
   have Hf' := Lib.hid hf'
   have HR' := Lib.hid hR'
   have HX' := Lib.hid hX'
   have Hbm := Lib.hid hbm
   have Hor := Lib.hid hor
   clear hrows hnew hf' hR' hX' o' x' h' xm hty hb2 hvr hbm xA hor d10 d9
   refine HK.out ?_; clear HK _K
   go_wp2_with fail
   have xs : Ext (fun b => b = r) w' (w'.setCell ⟨r, 10, none⟩ (.int .i64 (↑k + 1))) := (Ext.refl (fun b => b = r) w').setCell (p := ⟨r, 10, none⟩) (.inl rfl) _
   have hset := RaftIs.set (N' := N.takes (k + 1)) HR'.out xs (fun L tv hb => blk_setCell hb 10 _) rfl ⟨hi1, hi2⟩ (by show N.committed ≤ N.log.length; rw [HcmE.out]; exact hcm) rfl rfl
   obtain ⟨ms', hms', hown', hnew'⟩ := Hnew.out
   have hbs := blk_setCell Hbm.out 10 (.int .i64 (↑k + 1))
   refine ⟨⟨k + 1, by omega, by omega, Lib.hid hset.1, Lib.hid ⟨ms', hms'.ext (T := 92) (by decide) xs (fun g hg _ => by subst hg; exact ⟨_, _, Hbm.out⟩), hown'.ext xs (fun g hg h => Hor.out g hg h.symm), hnew'⟩, Hf'.out, Lib.hid (HX'.out.trans hset.2)⟩, ?_⟩
   rw [cell_of_blk hbs, cell_of_blk Hb'.out]
   show cm - ((k : Int) + 1).toNat < cm - ((k : Int)).toNat
   omega
  ·obtain rfl : k = cm := by omega
   go_wp2_with fail
   go_quiet (fail)
   go_wp2_with fail
   go_ret
   have xd : Ext NoB wr (wr.drewN nq) := (Ext.refl _ wr).drewN _
   exact ⟨_, rfl, ⟨ms, Hms.out.ext (T := 0) (by decide) xd (fun _ h => h.elim), Hown.out.no xd, Hnew0.out⟩, Hfr.out, HX.out.nextNo xd, HR.out.no xd⟩
end Go.Proofs.YtgglbholbkdgfaaGreatDoor
namespace Go.Proofs.YtgglbholbkdgfaaGreatDoor
open Go.RowKit
def CellsB (w : World) (a : Option Addr) (l : List UInt8) : Prop := ∀ i x, l[i]? = some x → ∃ b off, a = some ⟨b, off, none⟩ ∧ w.cell? ⟨b, off + i, none⟩ = some (.int .u8 (x.toNat : Int))
theorem CellsB.no {w w' : World} {a : Option Addr} {l : List UInt8} (h : CellsB w a l) (x : Ext NoB w w') : CellsB w' a l := fun i y hy => by
 obtain ⟨b, off, h1, h2⟩ := h i y hy
 exact ⟨b, off, h1, x.cell h2 (fun h => h)⟩
theorem RdB.cells {w : World} {a : Option Addr} {n c : Nat} {l : List UInt8} (h : RdB w (.slice a n c) l) : CellsB w a l := by
 obtain ⟨a', n', c', hv, hl, _, _, _, hr⟩ := h
 cases hv
 intro i x hx
 have hne : bytesV l ≠ [] := by
  intro e
  have : l = [] := by simpa [bytesV] using e
  rw [this] at hx
  cases hx
 obtain ⟨b, off, h1, h2⟩ := hr hne
 refine ⟨b, off, h1, h2 i _ ?_⟩
 unfold bytesV
 rw [List.getElem?_map, hx]
 rfl
end Go.Proofs.YtgglbholbkdgfaaGreatDoor
namespace Go.Proofs.YtgglbholbkdgfaaGreatDoor
open Go.RowKit
theorem EntRows.get {w : World} {ms : List (List Value)} {es : List (Nat × List UInt8)} (h : EntRows w ms es) : ∀ (i : Nat) (e : Nat × List UInt8), es[i]? = some e → ∃ dv, ms.flatten[i * 2]? = some (.int .i64 e.1) ∧ ms.flatten[i * 2 + 1]? = some dv ∧ Own w 5 1 dv (bytesV e.2) := by
 induction h with
 | nil => intro i e h; cases h
 | @snoc ms es m e0 h1 h2 ih =>
  intro i e hi
  have hl := h1.len
  by_cases hlt : i < es.length
  ·rw [List.getElem?_append_left hlt] at hi
   obtain ⟨dv, q1, q2, q3⟩ := ih i e hi
   refine ⟨dv, ?_, ?_, q3⟩
   ·rw [List.flatten_append, List.getElem?_append_left (by omega)]; exact q1
   ·rw [List.flatten_append, List.getElem?_append_left (by omega)]; exact q2
  ·have hie : i = es.length := by have := (List.getElem?_eq_some_iff.1 hi).1; simp at this; omega
   subst hie
   rw [List.getElem?_append_right (Nat.le_refl _), Nat.sub_self] at hi
   obtain rfl : e0 = e := by simpa using hi
   obtain ⟨dv, rfl, q1⟩ := h2
   refine ⟨dv, ?_, ?_, q1⟩
   ·rw [List.flatten_append, List.getElem?_append_right (by omega), hl, Nat.sub_self]; rfl
   ·rw [List.flatten_append, List.getElem?_append_right (by omega), hl, show es.length * 2 + 1 - es.length * 2 = 1 by omega]; rfl
theorem segBytes_le : ∀ (es : List (Nat × List UInt8)) (n : Nat), (segBytes n (es.map entB)).length ≤ (es.map (fun e => 28 + e.2.length)).sum
 | [], n => by simp [segBytes]
 | e :: es, n => by
  have h1 := segBytes_le es (n + 1)
  have h2 := uv_length n
  have h3 := uv_length e.1
  have h4 : (entB e).length = (uv e.1).length + e.2.length := by show (uv e.1 ++ e.2).length = _; rw [List.length_append]
  simp only [List.map_cons, segBytes, List.length_append, enc_length, List.sum_cons]
  omega
theorem sent_any (F : Nat → Prop) (da : Option Addr) (dc fb : Nat) (es : List (Nat × List UInt8)) (w : World) (ho : Own w 5 1 (.slice da (entsB es).length dc) (bytesV (entsB es))) (hoff : Off F (.slice da (entsB es).length dc)) (hes : ∀ e ∈ es, e.1 ≤ 1099511627776 ∧ e.2.length ≤ 65536) (hl : es.length ≤ 8)
  (hfb : ¬ F fb) (hfl : fb < w.heap.size) : ∃ b, ¬ F b ∧ b < w.heap.size ∧ ∀ w', Ext F w w' → Calls Tryz.prog 84 #[.slice da (entsB es).length dc] w' (SentEnds b es w') := by
 cases es with
 | nil =>
  refine ⟨fb, hfb, hfl, fun w' _ => ?_⟩
  refine (sent_nil da dc w').mono ?_
  rintro e w2 ⟨rfl, x⟩
  exact ⟨.slice none 0 0, [], rfl, .nil, Own.nil _ _ _, Fresh.nil _ _ _, x⟩
 | cons e l =>
  have hne : entsB (e :: l) ≠ [] := by
   rw [entsB_cons]
   intro h
   have := congrArg List.length h
   have h1 := uvF_pos 10 e.1 (by omega)
   rw [List.length_append] at this
   have h2 : (uv e.1).length = (uvF 10 e.1).length := rfl
   simp only [List.length_nil] at this
   omega
  rcases ho with ⟨_, h⟩ | ⟨g, n, cap, cur, hv, hb, hrest⟩
  ·exact absurd (by simpa [bytesV] using h) hne
  ·cases hv
   have hg : g < w.heap.size := lt_of_blk hb
   have hgF : ¬ F g := hoff g rfl
   have ho' : Own w 5 1 (.slice (some ⟨g, 0, none⟩) (entsB (e :: l)).length dc) (bytesV (entsB (e :: l))) := .inr ⟨g, _, _, cur, rfl, hb, hrest⟩
   refine ⟨g, hgF, hg, fun w' x => ?_⟩
   exact sent_ok g 0 dc _ (e :: l) w' (Rd.ext ho'.rd x (fun b hb => by cases hb; exact hgF)) rfl (Nat.lt_of_lt_of_le hg x.size) hl (fun e' he => ⟨(hes e' he).1, by have := (hes e' he).2; omega⟩)
end Go.Proofs.YtgglbholbkdgfaaGreatDoor
