/- Package raft: Take. -/
import Derived.Test.YtgglbholbkdgfaaGreatDoorB43
namespace Go.Proofs.YtgglbholbkdgfaaGreatDoor
open Go.RowKit

theorem unEnts : Tryz.prog.underlying 45 = some (.slice 50) := Tryz.underlying45
theorem elEnt : ElemT Tryz.prog 50 2 32 := ElemT.of (z := .agg #[.int .i64 0, .slice none 0 0]) (by kernel_rfl) rfl (by decide)
/-- An entry in memory. -/
def EntIs (w : World) (m : List Value) (e : Nat × List UInt8) : Prop := ∃ dv, m = [.int .i64 e.1, dv] ∧ Own w 5 1 dv (bytesV e.2)
theorem EntIs.ext {w w' : World} {G : Nat → Prop} {m : List Value} {e : Nat × List UInt8} {T : TypeId} (hT : T ≠ 5) (h : EntIs w m e) (x : Ext G w w') (hG : ∀ g, G g → g < w.heap.size → ∃ cs fr, w.heap[g]? = some (.cells cs T fr)) : EntIs w' m e := by
  obtain ⟨dv, rfl, h2⟩ := h
  refine ⟨dv, rfl, h2.ext x (fun g hg hb => ?_)⟩
  obtain ⟨cs, fr, hb⟩ := hG g hb (h2.lt g hg)
  exact h2.ne_blk hb hT g hg rfl
theorem EntIs.one {w : World} {m : List Value} {e : Nat × List UInt8} (h : EntIs w m e) : m.length = 2 ∧ ∀ u ∈ m, u.oneCell' = true := by
  obtain ⟨dv, rfl, h2⟩ := h
  obtain ⟨a', n', c', rfl, _⟩ := h2.rd
  exact ⟨rfl, by simp [Value.oneCell']⟩
inductive EntRows (w : World) : List (List Value) → List (Nat × List UInt8) → Prop
  | nil : EntRows w [] []
  | snoc {ms : List (List Value)} {es : List (Nat × List UInt8)} {m : List Value} {e : Nat × List UInt8} : EntRows w ms es → EntIs w m e → EntRows w (ms ++ [m]) (es ++ [e])
theorem EntRows.ext {w w' : World} {G : Nat → Prop} {ms : List (List Value)} {es : List (Nat × List UInt8)} {T : TypeId} (hT : T ≠ 5) (h : EntRows w ms es) (x : Ext G w w') (hG : ∀ g, G g → g < w.heap.size → ∃ cs fr, w.heap[g]? = some (.cells cs T fr)) : EntRows w' ms es := by
  induction h with
  | nil => exact .nil
  | snoc _ h2 ih => exact .snoc ih (h2.ext hT x hG)
theorem EntRows.len {w : World} {ms : List (List Value)} {es : List (Nat × List UInt8)} (h : EntRows w ms es) : ms.flatten.length = es.length * 2 := by
  induction h with
  | nil => rfl
  | snoc _ h2 ih => simp only [List.flatten_append, List.length_append, ih, List.flatten_cons, List.flatten_nil, List.append_nil, h2.one.1, List.length_cons, List.length_nil]; omega
def EntsAre (w : World) (v : Value) (es : List (Nat × List UInt8)) : Prop := ∃ ms, EntRows w ms es ∧ Own w 50 2 v ms.flatten

/-- What Take leaves. -/
def PNode.takes (N : PNode) (k : Nat) : PNode := { N with taken := k }
theorem take_snoc_drop {α : Type} (l : List α) (a k : Nat) (e : α) (ha : a ≤ k) (h : l[k]? = some e) : (l.take (k + 1)).drop a = (l.take k).drop a ++ [e] := by
  obtain ⟨hk, he⟩ := List.getElem?_eq_some_iff.1 h
  rw [List.take_succ_eq_append_getElem hk, he, List.drop_append_of_le_length (by simp; omega)]

set_option maxRecDepth 100000 in
set_option maxHeartbeats 4000000 in
theorem Take_any (r d : Nat) (F : Nat → Prop) (N : PNode) (room : Nat) (saved : Bool) (w : World) (h : RaftIs w r d F N room saved) (hok : N.Ok) (htk : N.taken ≤ N.committed) :
    Calls Tryz.prog 21 #[.pointer (some ⟨r, 0, none⟩)] w fun e w' => ∃ v, e = .returned v ∧ EntsAre w' v ((N.log.take N.committed).drop N.taken) ∧ Fresh w v ∧ Ext F w w' ∧ RaftIs w' r d F (N.takes N.committed) room saved := by
  obtain ⟨L, tv, hb, hi1, hi2, hcm, hl100⟩ := h.cells
  have c23 : w.cell? ⟨r, 23, none⟩ = some (.bool false) := by rw [cell_of_blk hb]; rfl
  have H := Lib.hid h
  have Hok := Lib.hid hok
  obtain ⟨cm, hcmE⟩ : ∃ cm, N.committed = cm := ⟨_, rfl⟩
  obtain ⟨tk, htkE⟩ : ∃ tk, N.taken = tk := ⟨_, rfl⟩
  rw [hcmE, htkE] at htk
  rw [hcmE] at hcm
  rw [hcmE, htkE]
  have HcmE := Lib.hid hcmE
  have HtkE := Lib.hid htkE
  clear h hb hok hcmE htkE
  go_enter Tryz.func21, Tryz.ntmps21
  go_wp2_with fail
  go_loopw [3] (fun v wr => ∃ k : Nat, tk ≤ k ∧ k ≤ cm ∧ Hid (RaftIs wr r d F (N.takes k) room saved) ∧ Hid (EntsAre wr v ((N.log.take k).drop tk)) ∧ Fresh w v ∧ Hid (Ext F w wr)) (fun _ wr => match wr.cell? ⟨r, 10, none⟩ with | some (.int _ i) => cm - i.toNat | _ => 0)
  case atStart => exact ⟨tk, Nat.le_refl _, htk, Lib.hid (by rw [← HtkE.out]; exact H.out), Lib.hid ⟨[], by rw [List.drop_of_length_le (by simp; omega)]; exact .nil, Own.nil _ _ _⟩, Fresh.nil _ _ _, Lib.hid (Ext.refl _ _)⟩
  case round =>
    obtain ⟨k, hk1, hk2, HR, HE, hfr, HX⟩ := hrel
    obtain ⟨L', tv', hb', _, _, _, _⟩ := HR.out.cells
    have d10 : wr.cell? ⟨r, 10, none⟩ = some (.int .i64 k) := by rw [cell_of_blk hb']; rfl
    have d9 : wr.cell? ⟨r, 9, none⟩ = some (.int .i64 cm) := by rw [cell_of_blk hb', ← HcmE.out]; rfl
    obtain ⟨ms, hms, hown⟩ := HE.out
    have hmlen := hms.len
    obtain ⟨va, vn, vc, rfl, hvl, _, _, _, _⟩ := hown.rd
    have Hown := Lib.hid hown
    have Hms := Lib.hid hms
    have Hml := Lib.hid hmlen
    have Hb' := Lib.hid hb'
    have Hfr := Lib.hid hfr
    clear hb' hown hms hmlen hvl hfr
    by_cases hlt : k < cm
    · go_wp2_with fail
      go_quiet (fail)
      go_wp2_with fail
      have xd : Ext NoB wr (wr.drewN nq) := (Ext.refl _ wr).drewN _
      generalize wr.drewN nq = w1 at xd ⊢
      obtain ⟨D, ps, hN, hrm, hperm⟩ := HR.out.is
      obtain ⟨⟨et, ed⟩, hent⟩ : ∃ e, N.log[k]? = some e := ⟨_, List.getElem?_eq_getElem (by omega)⟩
      obtain ⟨het, hed⟩ := Hok.out (et, ed) (List.mem_of_getElem? hent)
      have Hsn := Lib.hid (take_snoc_drop N.log tk k (et, ed) hk1 hent)
      have Hent := Lib.hid (entry_any r d F (N.takes k) D ps (k + 1) et ed w1 (hN.no xd) (by omega) hent het hed)
      have Hxd := Lib.hid xd
      clear xd hN hrm hperm hent
      refine Hent.out.mono ?_; rintro e w2 ⟨dv, rfl, od, fd, x2⟩
      obtain ⟨da, dc, rfl, hd1, hd2⟩ := RdB.shape (l := ed) od.rd
      have hei : EntIs w2 [.int .i64 et, .slice da ed.length dc] (et, ed) := ⟨_, rfl, od⟩
      have Hei := Lib.hid hei
      have xA : Ext NoB w2 (w2.alloc (.cells #[.int .i64 et, .slice da ed.length dc] 50)) := (Ext.refl _ w2).alloc _
      have hsrc := Src.row (P := Tryz.prog) unEnts w2.heap.size 2 [.int .i64 et, .slice da ed.length dc] 50 (0, 0) (blk_new w2 (.cells #[.int .i64 et, .slice da ed.length dc] 50)) rfl hei.one.2
      have Hsrc := Lib.hid hsrc
      have x02 := Hxd.out.trans x2
      have HoA := Lib.hid ((Hown.out.no x02).no xA)
      have hbd : (ms.flatten.length + [Value.int .i64 et, .slice da ed.length dc].length) * 32 ≤ 140737488355328 := by
        rw [Hml.out]
        simp only [List.length_cons, List.length_nil, List.length_drop, List.length_take]
        omega
      have Hbd := Lib.hid hbd
      have Hx02 := Lib.hid x02
      clear od fd hei hsrc hbd x02 x2
      go_wp2_with (at_builtin; refine wpList_app _ rfl (.tmp 28) (.tmp 36) 45 45 rfl 50 2 32 unEnts elEnt HoA.out Hsrc.out rfl rfl Hbd.out (by decide) ?_; intro v' w' o' x' h'; refine halt2 (fun _K HK => ?_))
      have xm : Ext (fun g => (Value.slice va vn vc).ownBlock = some g) w2 w' := (xA.of_no).trans x'
      have hty : ∀ g, (Value.slice va vn vc).ownBlock = some g → g < w2.heap.size → ∃ cs fr, w2.heap[g]? = some (.cells cs 50 fr) := fun g hg _ => own_type (Hown.out.no Hx02.out) g hg
      have hrows : EntRows w' (ms ++ [[.int .i64 et, .slice da ed.length dc]]) ((N.log.take (k + 1)).drop tk) := by
        rw [Hsn.out]
        exact .snoc ((Hms.out.ext (T := 0) (by decide) Hx02.out (fun _ h _ => h.elim)).ext (T := 50) (by decide) xm hty) (Hei.out.ext (T := 50) (by decide) xm hty)
      have hnew : EntsAre w' v' ((N.log.take (k + 1)).drop tk) := ⟨_, hrows, by rw [List.flatten_append, List.flatten_cons, List.flatten_nil, List.append_nil]; exact o'⟩
      have hf' : Fresh w v' := Hfr.out.app (Nat.le_trans HX.out.size (Nat.le_trans Hx02.out.size xA.size)) h'
      have hb2 := Hx02.out.blk Hb'.out (fun h => h)
      have hvr : ¬ ((Value.slice va vn vc).ownBlock = some r) := fun hg => (Hown.out.no Hx02.out).ne_blk hb2 (by decide) r hg rfl
      have hbm := xm.blk hb2 hvr
      have d10' : w'.cell? ⟨r, 10, none⟩ = some (.int .i64 k) := by rw [cell_of_blk hbm]; rfl
      have f10' : w'.frozen? ⟨r, 10, none⟩ = false := frozen_of_blk hbm 10
      have hR' : RaftIs w' r d F (N.takes k) room saved := (HR.out.no Hx02.out).ext xm (fun b hb hg => by have := H.out.lt b hb; have := Hfr.out b hg; omega)
      have hX' : Ext F w w' := (HX.out.nextNo Hx02.out).next xm (fun g hg hl => by have := Hfr.out g hg; omega)
      have hor : ∀ g, v'.ownBlock = some g → r ≠ g := fun g hg => o'.ne_blk hbm (by decide) g hg
      obtain ⟨a', n', c', rfl, _⟩ := o'.rd
      have Hnew := Lib.hid hnew
      have Hf' := Lib.hid hf'
      have HR' := Lib.hid hR'
      have HX' := Lib.hid hX'
      have Hbm := Lib.hid hbm
      have Hor := Lib.hid hor
      clear hrows hnew hf' hR' hX' o' x' h' xm hty hb2 hvr hbm xA hor d10 d9
      refine HK.out ?_; clear HK _K
      go_wp2_with fail
      have xs : Ext (fun b => b = r) w' (w'.setCell ⟨r, 10, none⟩ (.int .i64 (↑k + 1))) := (Ext.refl (fun b => b = r) w').setCell (p := ⟨r, 10, none⟩) (.inl rfl) _
      have hset := RaftIs.set (N' := N.takes (k + 1)) HR'.out xs (fun L tv hb => blk_setCell hb 10 _) rfl ⟨hi1, hi2⟩ (by show N.committed ≤ N.log.length; rw [HcmE.out]; exact hcm) rfl rfl
      obtain ⟨ms', hms', hown'⟩ := Hnew.out
      have hbs := blk_setCell Hbm.out 10 (.int .i64 (↑k + 1))
      refine ⟨⟨k + 1, by omega, by omega, Lib.hid hset.1, Lib.hid ⟨ms', hms'.ext (T := 92) (by decide) xs (fun g hg _ => by subst hg; exact ⟨_, _, Hbm.out⟩), hown'.ext xs (fun g hg h => Hor.out g hg h.symm)⟩, Hf'.out, Lib.hid (HX'.out.trans hset.2)⟩, ?_⟩
      rw [cell_of_blk hbs, cell_of_blk Hb'.out]
      show cm - ((k : Int) + 1).toNat < cm - ((k : Int)).toNat
      omega
    · obtain rfl : k = cm := by omega
      go_wp2_with fail
      go_quiet (fail)
      go_wp2_with fail
      go_ret
      have xd : Ext NoB wr (wr.drewN nq) := (Ext.refl _ wr).drewN _
      exact ⟨_, rfl, ⟨ms, Hms.out.ext (T := 0) (by decide) xd (fun _ h => h.elim), Hown.out.no xd⟩, Hfr.out, HX.out.nextNo xd, HR.out.no xd⟩
end Go.Proofs.YtgglbholbkdgfaaGreatDoor
