/- Joined texts: B85 B86 B84. Each has its own head. -/
import Derived.Test.YtgglbholbkdgfaaGreatDoorK8
import Derived.Test.YtgglbholbkdgfaaGreatDoorK6
import Derived.Test.YtgglbholbkdgfaaGreatDoorK16
import Derived.Test.YtgglbholbkdgfaaGreatDoorK9
set_option linter.unusedVariables false
set_option linter.unusedSimpArgs false
/- Package raft: Take, and that its rows are new (printed by gen85.py from XB44). -/
namespace Go.Proofs.YtgglbholbkdgfaaGreatDoor
open Go.RowKit

/-- Entries in memory, in new blocks. -/
def EntsNew (w w' : World) (v : Value) (es : List (Nat × List UInt8)) : Prop := ∃ ms, EntRows w' ms es ∧ Own w' 50 2 v ms.flatten ∧ ∀ u ∈ ms.flatten, ∀ g, u.ownBlock = some g → w.heap.size ≤ g
theorem EntIs.ext' {w w' : World} {G : Nat → Prop} {m : List Value} {e : Nat × List UInt8} (h : EntIs w m e) (x : Ext G w w') (hG : ∀ u ∈ m, ∀ g, u.ownBlock = some g → ¬ G g) : EntIs w' m e := by
  obtain ⟨dv, rfl, ho⟩ := h
  exact ⟨dv, rfl, ho.ext x (fun g hg => hG dv (by simp) g hg)⟩
theorem EntRows.ext' {w w' : World} {G : Nat → Prop} {ms : List (List Value)} {es : List (Nat × List UInt8)} (h : EntRows w ms es) (x : Ext G w w') (hG : ∀ u ∈ ms.flatten, ∀ g, u.ownBlock = some g → ¬ G g) : EntRows w' ms es := by
  induction h with
  | nil => exact .nil
  | snoc _ h2 ih =>
    refine .snoc (ih fun u hu => hG u (by rw [List.flatten_append]; exact List.mem_append_left _ hu)) (h2.ext' x fun u hu => hG u ?_)
    rw [List.flatten_append, List.flatten_cons, List.flatten_nil, List.append_nil]
    exact List.mem_append_right _ hu
theorem EntsNew.ext {w w1 w2 : World} {G : Nat → Prop} {v : Value} {es : List (Nat × List UInt8)} (h : EntsNew w w1 v es) (hf : Fresh w v) (x : Ext G w1 w2) (hG : ∀ b, G b → b < w.heap.size ∨ w1.heap.size ≤ b) : EntsNew w w2 v es := by
  obtain ⟨ms, h1, h2, h3⟩ := h
  have hlt : ∀ {ms : List (List Value)} {es : List (Nat × List UInt8)}, EntRows w1 ms es → ∀ u ∈ ms.flatten, ∀ g, u.ownBlock = some g → g < w1.heap.size := by
    intro ms es h
    induction h with
    | nil => intro u hu; cases hu
    | snoc _ h2 ih =>
      intro u hu g hg
      rw [List.flatten_append, List.flatten_cons, List.flatten_nil, List.append_nil, List.mem_append] at hu
      rcases hu with hu | hu
      · exact ih u hu g hg
      · obtain ⟨dv, rfl, ho⟩ := h2
        simp only [List.mem_cons, List.not_mem_nil, or_false] at hu
        rcases hu with rfl | rfl
        · cases hg
        · exact ho.lt g hg
  refine ⟨ms, h1.ext' x (fun u hu g hg hGg => ?_), h2.ext x (fun g hg hGg => ?_), h3⟩
  · have a1 := h3 u hu g hg
    have a2 := hlt h1 u hu g hg
    rcases hG g hGg with h | h <;> omega
  · have a1 := hf g hg
    have a2 := h2.lt g hg
    rcases hG g hGg with h | h <;> omega

set_option maxRecDepth 100000 in
set_option maxHeartbeats 4000000 in
theorem Take_new (r d : Nat) (F : Nat → Prop) (N : PNode) (room : Nat) (saved : Bool) (w : World) (h : RaftIs w r d F N room saved) (hok : N.Ok) (htk : N.taken ≤ N.committed) :
    Calls Tryz.prog 21 #[.pointer (some ⟨r, 0, none⟩)] w fun e w' => ∃ v, e = .returned v ∧ EntsNew w w' v ((N.log.take N.committed).drop N.taken) ∧ Fresh w v ∧ Ext F w w' ∧ RaftIs w' r d F (N.takes N.committed) room saved := by
  obtain ⟨L, tv, hb, hi1, hi2, hcm, hl100⟩ := h.cells
  have c23 : w.cell? ⟨r, 23, none⟩ = some (.bool false) := by rw [cell_of_blk hb]; rfl
  have H := Lib.hid h
  have Hok := Lib.hid hok
  obtain ⟨cm, hcmE⟩ : ∃ cm, N.committed = cm := ⟨_, rfl⟩
  obtain ⟨tk, htkE⟩ : ∃ tk, N.taken = tk := ⟨_, rfl⟩
  rw [hcmE, htkE] at htk
  rw [hcmE] at hcm
  rw [hcmE, htkE]
  have HcmE := Lib.hid hcmE
  have HtkE := Lib.hid htkE
  clear h hb hok hcmE htkE
  go_enter Tryz.func21, Tryz.ntmps21
  go_wp2_with fail
  go_loopw [3] (fun v wr => ∃ k : Nat, tk ≤ k ∧ k ≤ cm ∧ Hid (RaftIs wr r d F (N.takes k) room saved) ∧ Hid (EntsNew w wr v ((N.log.take k).drop tk)) ∧ Fresh w v ∧ Hid (Ext F w wr)) (fun _ wr => match wr.cell? ⟨r, 10, none⟩ with | some (.int _ i) => cm - i.toNat | _ => 0)
  case atStart => exact ⟨tk, Nat.le_refl _, htk, Lib.hid (by rw [← HtkE.out]; exact H.out), Lib.hid ⟨[], by rw [List.drop_of_length_le (by simp; omega)]; exact .nil, Own.nil _ _ _, fun u hu => by cases hu⟩, Fresh.nil _ _ _, Lib.hid (Ext.refl _ _)⟩
  case round =>
    obtain ⟨k, hk1, hk2, HR, HE, hfr, HX⟩ := hrel
    obtain ⟨L', tv', hb', _, _, _, _⟩ := HR.out.cells
    have d10 : wr.cell? ⟨r, 10, none⟩ = some (.int .i64 k) := by rw [cell_of_blk hb']; rfl
    have d9 : wr.cell? ⟨r, 9, none⟩ = some (.int .i64 cm) := by rw [cell_of_blk hb', ← HcmE.out]; rfl
    obtain ⟨ms, hms, hown, hnew0⟩ := HE.out
    have Hnew0 := Lib.hid hnew0
    have hmlen := hms.len
    obtain ⟨va, vn, vc, rfl, hvl, _, _, _, _⟩ := hown.rd
    have Hown := Lib.hid hown
    have Hms := Lib.hid hms
    have Hml := Lib.hid hmlen
    have Hb' := Lib.hid hb'
    have Hfr := Lib.hid hfr
    clear hb' hown hms hmlen hvl hfr hnew0
    by_cases hlt : k < cm
    · go_wp2_with fail
      go_quiet (fail)
      go_wp2_with fail
      have xd : Ext NoB wr (wr.drewN nq) := (Ext.refl _ wr).drewN _
      generalize wr.drewN nq = w1 at xd ⊢
      obtain ⟨D, ps, hN, hrm, hperm⟩ := HR.out.is
      obtain ⟨⟨et, ed⟩, hent⟩ : ∃ e, N.log[k]? = some e := ⟨_, List.getElem?_eq_getElem (by omega)⟩
      obtain ⟨het, hed⟩ := Hok.out (et, ed) (List.mem_of_getElem? hent)
      have Hsn := Lib.hid (take_snoc_drop N.log tk k (et, ed) hk1 hent)
      have Hent := Lib.hid (entry_any r d F (N.takes k) D ps (k + 1) et ed w1 (hN.no xd) (by omega) hent het hed)
      have Hxd := Lib.hid xd
      clear xd hN hrm hperm hent
      refine Hent.out.mono ?_; rintro e w2 ⟨dv, rfl, od, fd, x2⟩
      obtain ⟨da, dc, rfl, hd1, hd2⟩ := RdB.shape (l := ed) od.rd
      have hei : EntIs w2 [.int .i64 et, .slice da ed.length dc] (et, ed) := ⟨_, rfl, od⟩
      have Hei := Lib.hid hei
      have Hfd := Lib.hid fd
      have xA : Ext NoB w2 (w2.alloc (.cells #[.int .i64 et, .slice da ed.length dc] 50)) := (Ext.refl _ w2).alloc _
      have hsrc := Src.row (P := Tryz.prog) unEnts w2.heap.size 2 [.int .i64 et, .slice da ed.length dc] 50 (0, 0) (blk_new w2 (.cells #[.int .i64 et, .slice da ed.length dc] 50)) rfl hei.one.2
      have Hsrc := Lib.hid hsrc
      have x02 := Hxd.out.trans x2
      have HoA := Lib.hid ((Hown.out.no x02).no xA)
      have hbd : (ms.flatten.length + [Value.int .i64 et, .slice da ed.length dc].length) * 32 ≤ 140737488355328 := by
        rw [Hml.out]
        simp only [List.length_cons, List.length_nil, List.length_drop, List.length_take]
        omega
      have Hbd := Lib.hid hbd
      have Hx02 := Lib.hid x02
      clear od fd hei hsrc hbd x02 x2
      go_wp2_with (at_builtin; refine wpList_app _ rfl (.tmp 28) (.tmp 36) 45 45 rfl 50 2 32 unEnts elEnt HoA.out Hsrc.out rfl rfl Hbd.out (by decide) ?_; intro v' w' o' x' h'; refine halt2 (fun _K HK => ?_))
      have xm : Ext (fun g => (Value.slice va vn vc).ownBlock = some g) w2 w' := (xA.of_no).trans x'
      have hty : ∀ g, (Value.slice va vn vc).ownBlock = some g → g < w2.heap.size → ∃ cs fr, w2.heap[g]? = some (.cells cs 50 fr) := fun g hg _ => own_type (Hown.out.no Hx02.out) g hg
      have hrows : EntRows w' (ms ++ [[.int .i64 et, .slice da ed.length dc]]) ((N.log.take (k + 1)).drop tk) := by
        rw [Hsn.out]
        exact .snoc ((Hms.out.ext (T := 0) (by decide) Hx02.out (fun _ h _ => h.elim)).ext (T := 50) (by decide) xm hty) (Hei.out.ext (T := 50) (by decide) xm hty)
      have hnew : EntsNew w w' v' ((N.log.take (k + 1)).drop tk) := ⟨_, hrows, by rw [List.flatten_append, List.flatten_cons, List.flatten_nil, List.append_nil]; exact o', fun u hu g hg => by
        rw [List.flatten_append, List.flatten_cons, List.flatten_nil, List.append_nil, List.mem_append] at hu
        rcases hu with hu | hu
        · exact Hnew0.out u hu g hg
        · simp only [List.mem_cons, List.not_mem_nil, or_false] at hu
          rcases hu with rfl | rfl
          · cases hg
          · have h1 := Hfd.out g hg
            have h2 := HX.out.size
            have h3 := Hxd.out.size
            omega⟩
      have hf' : Fresh w v' := Hfr.out.app (Nat.le_trans HX.out.size (Nat.le_trans Hx02.out.size xA.size)) h'
      have hb2 := Hx02.out.blk Hb'.out (fun h => h)
      have hvr : ¬ ((Value.slice va vn vc).ownBlock = some r) := fun hg => (Hown.out.no Hx02.out).ne_blk hb2 (by decide) r hg rfl
      have hbm := xm.blk hb2 hvr
      have d10' : w'.cell? ⟨r, 10, none⟩ = some (.int .i64 k) := by rw [cell_of_blk hbm]; rfl
      have f10' : w'.frozen? ⟨r, 10, none⟩ = false := frozen_of_blk hbm 10
      have hR' : RaftIs w' r d F (N.takes k) room saved := (HR.out.no Hx02.out).ext xm (fun b hb hg => by have := H.out.lt b hb; have := Hfr.out b hg; omega)
      have hX' : Ext F w w' := (HX.out.nextNo Hx02.out).next xm (fun g hg hl => by have := Hfr.out g hg; omega)
      have hor : ∀ g, v'.ownBlock = some g → r ≠ g := fun g hg => o'.ne_blk hbm (by decide) g hg
      obtain ⟨a', n', c', rfl, _⟩ := o'.rd
      have Hnew := Lib.hid hnew
      have Hf' := Lib.hid hf'
      have HR' := Lib.hid hR'
      have HX' := Lib.hid hX'
      have Hbm := Lib.hid hbm
      have Hor := Lib.hid hor
      clear hrows hnew hf' hR' hX' o' x' h' xm hty hb2 hvr hbm xA hor d10 d9
      refine HK.out ?_; clear HK _K
      go_wp2_with fail
      have xs : Ext (fun b => b = r) w' (w'.setCell ⟨r, 10, none⟩ (.int .i64 (↑k + 1))) := (Ext.refl (fun b => b = r) w').setCell (p := ⟨r, 10, none⟩) (.inl rfl) _
      have hset := RaftIs.set (N' := N.takes (k + 1)) HR'.out xs (fun L tv hb => blk_setCell hb 10 _) rfl ⟨hi1, hi2⟩ (by show N.committed ≤ N.log.length; rw [HcmE.out]; exact hcm) rfl rfl
      obtain ⟨ms', hms', hown', hnew'⟩ := Hnew.out
      have hbs := blk_setCell Hbm.out 10 (.int .i64 (↑k + 1))
      refine ⟨⟨k + 1, by omega, by omega, Lib.hid hset.1, Lib.hid ⟨ms', hms'.ext (T := 92) (by decide) xs (fun g hg _ => by subst hg; exact ⟨_, _, Hbm.out⟩), hown'.ext xs (fun g hg h => Hor.out g hg h.symm), hnew'⟩, Hf'.out, Lib.hid (HX'.out.trans hset.2)⟩, ?_⟩
      rw [cell_of_blk hbs, cell_of_blk Hb'.out]
      show cm - ((k : Int) + 1).toNat < cm - ((k : Int)).toNat
      omega
    · obtain rfl : k = cm := by omega
      go_wp2_with fail
      go_quiet (fail)
      go_wp2_with fail
      go_ret
      have xd : Ext NoB wr (wr.drewN nq) := (Ext.refl _ wr).drewN _
      exact ⟨_, rfl, ⟨ms, Hms.out.ext (T := 0) (by decide) xd (fun _ h => h.elim), Hown.out.no xd, Hnew0.out⟩, Hfr.out, HX.out.nextNo xd, HR.out.no xd⟩
end Go.Proofs.YtgglbholbkdgfaaGreatDoor
/- The laws' same, of rows that are. -/
namespace Go.Proofs.YtgglbholbkdgfaaGreatDoor
open Go.RowKit

/-- The cells of bytes behind an address. -/
def CellsB (w : World) (a : Option Addr) (l : List UInt8) : Prop := ∀ i x, l[i]? = some x → ∃ b off, a = some ⟨b, off, none⟩ ∧ w.cell? ⟨b, off + i, none⟩ = some (.int .u8 (x.toNat : Int))
theorem CellsB.no {w w' : World} {a : Option Addr} {l : List UInt8} (h : CellsB w a l) (x : Ext NoB w w') : CellsB w' a l := fun i y hy => by
  obtain ⟨b, off, h1, h2⟩ := h i y hy
  exact ⟨b, off, h1, x.cell h2 (fun h => h)⟩
theorem RdB.cells {w : World} {a : Option Addr} {n c : Nat} {l : List UInt8} (h : RdB w (.slice a n c) l) : CellsB w a l := by
  obtain ⟨a', n', c', hv, hl, _, _, _, hr⟩ := h
  cases hv
  intro i x hx
  have hne : bytesV l ≠ [] := by
    intro e
    have : l = [] := by simpa [bytesV] using e
    rw [this] at hx
    cases hx
  obtain ⟨b, off, h1, h2⟩ := hr hne
  refine ⟨b, off, h1, h2 i _ ?_⟩
  unfold bytesV
  rw [List.getElem?_map, hx]
  rfl
theorem CellsB.src {w : World} {a : Option Addr} {l : List UInt8} (h : CellsB w a l) (c : Nat) : Src Tryz.prog 1 35 (.slice a l.length c) l.length (bytesV l) w := by
  match l, a with
  | [], none => exact Src.ofNil w unBytes c
  | [], some p => exact Src.ofSlice w unBytes p 0 c [] (by simp) (by simp) (by simp)
  | x :: xs, a =>
    obtain ⟨b, off, rfl, _⟩ := h 0 x rfl
    refine Src.ofSlice w unBytes _ _ c _ (by simp) (fun j u hu => ?_) (bytesV_one _)
    unfold bytesV at hu
    rw [List.getElem?_map] at hu
    obtain ⟨y, hy, rfl⟩ := Option.map_eq_some_iff.1 hu
    obtain ⟨b', off', h1, h2⟩ := h j y hy
    cases h1
    unfold Addr.add
    split
    · subst_vars; simpa using h2
    · exact h2
set_option maxRecDepth 100000 in
set_option maxHeartbeats 2000000 in
theorem same16_eq (a b : Option Addr) (c c' : Nat) (l : List UInt8) (w : World) (ha : CellsB w a l) (hb : CellsB w b l) (hl : l.length ≤ 1000000000) :
    Calls Tryz.prog 23 #[.slice a l.length c, .slice b l.length c'] w fun e w' => e = .returned (.bool true) ∧ ∃ m, w' = w.drewN m := by
  have HA := Lib.hid ha
  have HB := Lib.hid hb
  clear ha hb
  go_enter Tryz.func23, Tryz.ntmps23
  go_wp2_with fail
  go_loopw [5] (fun i wr => ∃ k : Nat, i = .int .i64 (k : Int) ∧ k ≤ l.length ∧ Hid (∃ m, wr = w.drewN m)) (fun i _ => l.length - (intOf i).toNat)
  case atStart => exact ⟨0, rfl, by omega, Lib.hid ⟨0, rfl⟩⟩
  case round =>
    obtain ⟨k, rfl, hk, HX⟩ := hrel
    by_cases hlt : k < l.length
    · obtain ⟨x, hx⟩ : ∃ x, l[k]? = some x := ⟨_, List.getElem?_eq_getElem hlt⟩
      obtain ⟨b1, o1, rfl, c1⟩ := HA.out k x hx
      obtain ⟨b2, o2, rfl, c2⟩ := HB.out k x hx
      obtain ⟨mm, hmm⟩ := HX.out
      have hxx : Ext NoB w wr := by rw [hmm]; exact (Ext.refl _ w).drewN _
      replace c1 := hxx.cell c1 (fun h => h)
      replace c2 := hxx.cell c2 (fun h => h)
      have Hmm := Lib.hid hmm
      clear hmm hxx
      have hk0 : (0 : Int) ≤ (k : Int) := by omega
      have hk1 : (k : Int) < (l.length : Int) := by omega
      have hkn : ((k : Int)).toNat = k := by omega
      have hw3 : IntKind.i64.wrap ((k : Int) + 1) = (k : Int) + 1 := IntWalk.i64_in _ (by omega)
      clear hx
      go_wp2_with fail
      go_quiet (fail)
      go_wp2_with fail
      refine ⟨⟨k + 1, by go_num, by omega, Lib.hid ⟨mm + nq, by rw [Hmm.out, World.drewN_drewN]⟩⟩, ?_⟩
      show l.length - ((k : Int) + 1).toNat < l.length - ((k : Int)).toNat
      omega
    · obtain rfl : k = l.length := by omega
      go_wp2_with fail
      go_ret
      exact ⟨rfl, HX.out⟩
end Go.Proofs.YtgglbholbkdgfaaGreatDoor
/- The law RaftKeeps: its walk. -/
namespace Go.Proofs.YtgglbholbkdgfaaGreatDoor
open Go.RowKit

/-- Rows of bytes that come in. -/
def RowsIn (w : World) (rp : Option Addr) (rows : List (List UInt8)) : Prop :=
  ∀ i l, rows[i]? = some l → ∃ b off a c, rp = some ⟨b, off, none⟩ ∧ w.cell? ⟨b, off + i, none⟩ = some (.slice a l.length c) ∧ CellsB w a l ∧ l.length ≤ 140737488355328
def sumR (l : List (List UInt8)) : Nat := (l.map (fun r => 1 + r.length)).sum
theorem sumR_take {l : List (List UInt8)} {k : Nat} {r : List UInt8} (h : l[k]? = some r) : sumR (l.take (k + 1)) = sumR (l.take k) + 1 + r.length := by
  rw [take_succ_some h]
  simp [sumR]
  omega
theorem sumR_take_le (l : List (List UInt8)) : ∀ k, sumR (l.take k) ≤ sumR l := by
  induction l with
  | nil => intro k; simp [sumR]
  | cons r l ih =>
    intro k
    cases k with
    | zero => simp [sumR]
    | succ k => have := ih k; simp [sumR] at this ⊢; omega
theorem sumR_mem {l : List (List UInt8)} {r : List UInt8} (h : r ∈ l) : 1 + r.length ≤ sumR l := by
  induction l with
  | nil => cases h
  | cons x l ih =>
    rcases List.mem_cons.1 h with rfl | h
    · simp [sumR]
    · have := ih h; simp [sumR] at this ⊢; omega
theorem MsgRows.none {w : World} {ms : List (List Value)} {Ms : List PMsg} (h : MsgRows w ms Ms) (e : Ms = []) : ms = [] := by
  cases h with
  | nil => rfl
  | snoc => simp at e
theorem MsgRows.single {w : World} {ms : List (List Value)} {Ms : List PMsg} (h : MsgRows w ms Ms) (M : PMsg) (e : Ms = [M]) : ∃ m, ms = [m] ∧ MsgIs w m M := by
  cases h with
  | nil => cases e
  | @snoc ms' Ms' m M' h1 h2 =>
    have he : Ms' = [] ∧ M' = M := by
      cases Ms' with
      | nil => exact ⟨rfl, by simpa using e⟩
      | cons a l => simp at e
    have := h1.none he.1
    subst this
    exact ⟨m, rfl, he.2 ▸ h2⟩
theorem MsgsAre.cells1 {w : World} {v : Value} {M : PMsg} (h : MsgsAre w v [M]) : ∃ b c nv dv, v = .slice (some ⟨b, 0, none⟩) 1 c ∧ w.cell? ⟨b, 0, none⟩ = some (.int .i64 M.fr) ∧ w.cell? ⟨b, 1, none⟩ = some (.int .i64 M.tt) ∧ w.cell? ⟨b, 2, none⟩ = some (.int .i64 M.kd) ∧ w.cell? ⟨b, 3, none⟩ = some nv ∧ w.cell? ⟨b, 4, none⟩ = some dv ∧
    Own w 3 1 nv (intsV M.nums) ∧ Own w 5 1 dv (bytesV M.data) := by
  obtain ⟨ms, hms, hown⟩ := h
  obtain ⟨m, rfl, hm⟩ := hms.single M rfl
  obtain ⟨nv, dv, rfl, h1, h2⟩ := hm
  obtain ⟨va, vn, vc, rfl, hvl, hvn, hvc, _, hvr⟩ := hown.rd
  obtain rfl : vn = 1 := by simp at hvl; omega
  rcases hown with ⟨hv, _⟩ | ⟨g, n, cap, cur, hv, _⟩
  · cases hv
  · cases hv
    obtain ⟨b, off, hb, hcell⟩ := hvr (by simp)
    cases hb
    have k0 := hcell 0 _ rfl
    have k1 := hcell 1 _ rfl
    have k2 := hcell 2 _ rfl
    have k3 := hcell 3 _ rfl
    have k4 := hcell 4 _ rfl
    simp only [Nat.zero_add] at k0 k1 k2 k3 k4
    exact ⟨g, vc, nv, dv, rfl, k0, k1, k2, k3, k4, h1, h2⟩
theorem EntRows.get {w : World} {ms : List (List Value)} {es : List (Nat × List UInt8)} (h : EntRows w ms es) : ∀ (i : Nat) (e : Nat × List UInt8), es[i]? = some e → ∃ dv, ms.flatten[i * 2]? = some (.int .i64 e.1) ∧ ms.flatten[i * 2 + 1]? = some dv ∧ Own w 5 1 dv (bytesV e.2) := by
  induction h with
  | nil => intro i e h; cases h
  | @snoc ms es m e0 h1 h2 ih =>
    intro i e hi
    have hl := h1.len
    by_cases hlt : i < es.length
    · rw [List.getElem?_append_left hlt] at hi
      obtain ⟨dv, q1, q2, q3⟩ := ih i e hi
      refine ⟨dv, ?_, ?_, q3⟩
      · rw [List.flatten_append, List.getElem?_append_left (by omega)]; exact q1
      · rw [List.flatten_append, List.getElem?_append_left (by omega)]; exact q2
    · have hie : i = es.length := by have := (List.getElem?_eq_some_iff.1 hi).1; simp at this; omega
      subst hie
      rw [List.getElem?_append_right (Nat.le_refl _), Nat.sub_self] at hi
      obtain rfl : e0 = e := by simpa using hi
      obtain ⟨dv, rfl, q1⟩ := h2
      refine ⟨dv, ?_, ?_, q1⟩
      · rw [List.flatten_append, List.getElem?_append_right (by omega), hl, Nat.sub_self]; rfl
      · rw [List.flatten_append, List.getElem?_append_right (by omega), hl, show es.length * 2 + 1 - es.length * 2 = 1 by omega]; rfl
theorem toldL_end : ∀ (es log : List (Nat × List UInt8)), toldL log log.length es = some (log ++ es)
  | [], log => by simp [toldL]
  | e :: es, log => by
    rw [toldL, if_neg (by omega), if_pos rfl]
    have := toldL_end es (log ++ [e])
    rw [List.length_append] at this
    rw [show log.length + 1 = log.length + [e].length from rfl, this, List.append_assoc]
    rfl
theorem segBytes_le : ∀ (es : List (Nat × List UInt8)) (n : Nat), (segBytes n (es.map entB)).length ≤ (es.map (fun e => 28 + e.2.length)).sum
  | [], n => by simp [segBytes]
  | e :: es, n => by
    have h1 := segBytes_le es (n + 1)
    have h2 := uv_length n
    have h3 := uv_length e.1
    have h4 : (entB e).length = (uv e.1).length + e.2.length := by show (uv e.1 ++ e.2).length = _; rw [List.length_append]
    simp only [List.map_cons, segBytes, List.length_append, enc_length, List.sum_cons]
    omega
theorem rows_sum (rows : List (List UInt8)) : ((rows.map fun r => ((1, r) : Nat × List UInt8)).map (fun e => 28 + e.2.length)).sum ≤ 28 * sumR rows := by
  induction rows with
  | nil => simp [sumR]
  | cons r l ih => simp [sumR] at ih ⊢; omega
/-- The entries that the rows are. -/
def rowE (r : List UInt8) : Nat × List UInt8 := (1, r)

/-- sent of a message's bytes, behind whatever a node did. -/
theorem sent_any (F : Nat → Prop) (da : Option Addr) (dc fb : Nat) (es : List (Nat × List UInt8)) (w : World) (ho : Own w 5 1 (.slice da (entsB es).length dc) (bytesV (entsB es))) (hoff : Off F (.slice da (entsB es).length dc)) (hes : ∀ e ∈ es, e.1 ≤ 1099511627776 ∧ e.2.length ≤ 65536) (hl : es.length ≤ 8)
    (hfb : ¬ F fb) (hfl : fb < w.heap.size) : ∃ b, ¬ F b ∧ b < w.heap.size ∧ ∀ w', Ext F w w' → Calls Tryz.prog 84 #[.slice da (entsB es).length dc] w' (SentEnds b es w') := by
  cases es with
  | nil =>
    refine ⟨fb, hfb, hfl, fun w' _ => ?_⟩
    refine (sent_nil da dc w').mono ?_
    rintro e w2 ⟨rfl, x⟩
    exact ⟨.slice none 0 0, [], rfl, .nil, Own.nil _ _ _, Fresh.nil _ _ _, x⟩
  | cons e l =>
    have hne : entsB (e :: l) ≠ [] := by
      rw [entsB_cons]
      intro h
      have := congrArg List.length h
      have h1 := uvF_pos 10 e.1 (by omega)
      rw [List.length_append] at this
      have h2 : (uv e.1).length = (uvF 10 e.1).length := rfl
      simp only [List.length_nil] at this
      omega
    rcases ho with ⟨_, h⟩ | ⟨g, n, cap, cur, hv, hb, hrest⟩
    · exact absurd (by simpa [bytesV] using h) hne
    · cases hv
      have hg : g < w.heap.size := lt_of_blk hb
      have hgF : ¬ F g := hoff g rfl
      have ho' : Own w 5 1 (.slice (some ⟨g, 0, none⟩) (entsB (e :: l)).length dc) (bytesV (entsB (e :: l))) := .inr ⟨g, _, _, cur, rfl, hb, hrest⟩
      refine ⟨g, hgF, hg, fun w' x => ?_⟩
      exact sent_ok g 0 dc _ (e :: l) w' (Rd.ext ho'.rd x (fun b hb => by cases hb; exact hgF)) rfl (Nat.lt_of_lt_of_le hg x.size) hl (fun e' he => ⟨(hes e' he).1, by have := (hes e' he).2; omega⟩)

set_option maxRecDepth 100000 in
set_option maxHeartbeats 4000000 in
/-- Hear of entries of a newer term. -/
theorem Hear_ents_new (r d : Nat) (F : Nat → Prop) (N : PNode) (room : Nat) (saved : Bool) (fr t0 c3 a NB : Nat) (draw : Int) (da : Option Addr) (dc : Nat) (es log2 : List (Nat × List UInt8)) (w : World) (h : RaftIs w r d F N room saved)
    (hn : Own w 3 1 (.slice (some ⟨NB, 0, none⟩) 4 4) (intsV [(t0 : Int), (a : Int), (N.termOf a : Int), (c3 : Int)])) (hNB : ¬ F NB) (ho : Own w 5 1 (.slice da (entsB es).length dc) (bytesV (entsB es))) (hoff : Off F (.slice da (entsB es).length dc)) (hes : ∀ e ∈ es, e.1 ≤ 1099511627776 ∧ e.2.length ≤ 65536) (hl : es.length ≤ 8)
    (hfr : fr < N.n) (hne : fr ≠ N.id) (hgt : N.term < t0) (ht0 : t0 ≤ 1099511627776) (hta : N.termOf a ≤ 1099511627776) (ha : a ≤ N.log.length) (hc3 : c3 ≤ 1099511627776) (htold : toldL N.log a es = some log2) (hcap : log2.length ≤ 99) (hroom : (segBytes 1 (log2.map entB)).length + 200 ≤ room) :
    Calls Tryz.prog 19 #[.pointer (some ⟨r, 0, none⟩), msgV fr N.id 3 (.slice (some ⟨NB, 0, none⟩) 4 4) (.slice da (entsB es).length dc), .int .i64 draw] w (Sends r d F w [tookMsg (N.newer_ t0) fr 1 (a + es.length : Nat)] ((N.newer_ t0).told fr draw c3 (a + es.length) log2) room true) := by
  have hNBl : NB < w.heap.size := hn.lt NB rfl
  obtain ⟨b, hbF, hbl, hsent⟩ := sent_any F da dc NB es w ho hoff hes hl hNB hNBl
  have hpre := (toldL_len htold ha).2
  have hNroom : N.bytes + 100 ≤ room := by
    obtain ⟨t, rfl⟩ := hpre
    unfold PNode.bytes
    rw [List.map_append, segBytes_append, List.length_append] at hroom
    omega
  have hL := h.cells
  have hlen100 : N.log.length < 100 := by obtain ⟨_, _, _, _, _, _, h100⟩ := hL; exact h100
  have hoffN : Off F (.slice (some ⟨NB, 0, none⟩) 4 4) := fun g hg => by cases hg; exact hNB
  refine Hear_new3 r d F N _ room saved _ fr N.id draw t0 (some ⟨NB, 0, none⟩) da 4 (entsB es).length dc [(t0 : Int), (a : Int), (N.termOf a : Int), (c3 : Int)] w h hn.rd hoffN rfl hgt ht0 hNroom ?_ ?_
  · intro w1 x1
    obtain ⟨D, ps, hN, _, _⟩ := (h.no x1).is
    exact may_ents r d F N D ps fr (some ⟨NB, 0, none⟩) da 4 _ dc b es [(t0 : Int), (a : Int), (N.termOf a : Int), (c3 : Int)] w1 hN hfr hne (hn.no x1).rd (by show 4 ≤ _; omega) (by simp [goodB, okNum]; omega) (fun w2 x2 => hsent w2 ((x1.of_no).trans x2.of_no))
  · intro w1 F1 x1 hF1 h1
    have hsz := x1.size
    refine told_ents r d F1 (N.newer_ t0) room true fr N.id draw (some ⟨NB, 0, none⟩) da 4 _ dc c3 a b es log2 [(t0 : Int), (a : Int), (N.termOf a : Int), (c3 : Int)] w1 h1 (hn.ext x1 hoffN).rd (fun g hg hF => by
      cases hg
      rcases hF1 NB hF with h | h
      · exact hNB h
      · omega) rfl ha hc3 (fun hF => by
      rcases hF1 b hF with h | h
      · exact hbF h
      · omega) (by omega) (fun w2 x2 => hsent w2 (x1.next x2 (fun y hy hl => (hF1 y hy).elim id (fun h => by omega)))) hes hl htold hcap hroom

set_option maxRecDepth 100000 in
set_option maxHeartbeats 16000000 in
theorem keeps_walk (rp : Option Addr) (m c : Nat) (term draw : Int) (rows : List (List UInt8)) (w : World) (hm : rows.length = m) (hr : RowsIn w rp rows) (hm2 : m ≤ 140737488355328) :
    Calls Tryz.prog 6 #[.slice rp m c, .int .i64 term, .int .i64 draw] w fun e w' => e = .returned (.bool true) ∧ Ext NoB w w' := by
  have Hr := Lib.hid hr
  clear hr
  go_enter Tryz.func6, Tryz.ntmps6
  go_wp2_with fail
  go_loopw [7, 8] (fun v i wr => ∃ k : Nat, v = .int .i64 ((sumR (rows.take k) : Nat) : Int) ∧ i = .int .i64 (k : Int) ∧ k ≤ m ∧ (k = 0 ∨ sumR (rows.take (k - 1)) ≤ 4000) ∧ wr = w) (fun _ i _ => m - (intOf i).toNat)
  case atStart => exact ⟨0, rfl, rfl, by omega, .inl rfl, rfl⟩
  case round =>
    obtain ⟨k, rfl, rfl, hk, hpre, hww⟩ := hrel
    obtain rfl := hww.symm
    obtain ⟨S, hS⟩ : ∃ S, sumR (rows.take k) = S := ⟨_, rfl⟩
    rw [hS]
    by_cases hgo : k < m ∧ S ≤ 4000
    · obtain ⟨hlt, hS4⟩ := hgo
      obtain ⟨l, hl⟩ : ∃ l, rows[k]? = some l := ⟨_, List.getElem?_eq_getElem (by omega)⟩
      obtain ⟨rb, ro, ra, rc, rfl, hck, hrd, hll⟩ := Hr.out k l hl
      have hnext := sumR_take hl
      rw [hS] at hnext
      have hk0 : (0 : Int) ≤ (k : Int) := by omega
      have hk1 : (k : Int) < (m : Int) := by omega
      have hkn : ((k : Int)).toNat = k := by omega
      have hS4' : (S : Int) ≤ 4000 := by omega
      have hw1 : IntKind.i64.wrap ((S : Int) + 1) = (S : Int) + 1 := IntWalk.i64_in _ (by omega)
      have hw2 : IntKind.i64.wrap ((S : Int) + 1 + (l.length : Int)) = (S : Int) + 1 + (l.length : Int) := IntWalk.i64_in _ (by omega)
      have hw3 : IntKind.i64.wrap ((k : Int) + 1) = (k : Int) + 1 := IntWalk.i64_in _ (by omega)
      have Hn := Lib.hid hnext
      have HS := Lib.hid hS
      clear hrd hnext hl hpre hS
      go_wp2_with fail
      refine ⟨⟨k + 1, by rw [Hn.out]; go_num, by go_num, by omega, .inr (by rw [Nat.add_sub_cancel, HS.out]; omega), trivial⟩, ?_⟩
      show m - ((k : Int) + 1).toNat < m - ((k : Int)).toNat
      omega
    · have hexit : (k < m ∧ 4000 < S) ∨ (k = m ∧ 4000 < S) ∨ (k = m ∧ S ≤ 4000 ∧ 8 < m) ∨ (k = m ∧ S ≤ 4000 ∧ m ≤ 8 ∧ term < 1) ∨ (k = m ∧ S ≤ 4000 ∧ m ≤ 8 ∧ 1 ≤ term ∧ 1073741824 < term) ∨ (k = m ∧ S ≤ 4000 ∧ m ≤ 8 ∧ 1 ≤ term ∧ term ≤ 1073741824) := by omega
      clear hgo hpre
      rcases hexit with ⟨h1, h2⟩ | ⟨h1, h2⟩ | ⟨h1, h2, h3⟩ | ⟨h1, h2, h3, h4⟩ | ⟨h1, h2, h3, h4, h5⟩ | ⟨h1, h2, h3, h4, h5⟩
      · have q1 : (k : Int) < (m : Int) := by omega
        have q2 : ¬ ((S : Int) ≤ 4000) := by omega
        have q3 : (4000 : Int) < (S : Int) := by omega
        clear hS
        go_wp2_with fail
        refine (known_any w).mono ?_; rintro e w3 ⟨rfl, x3⟩
        go_wp2_with fail
        go_ret
        exact ⟨rfl, x3⟩
      · subst h1
        have q2 : ¬ ((S : Int) ≤ 4000) := by omega
        have q3 : (4000 : Int) < (S : Int) := by omega
        clear hS
        go_wp2_with fail
        refine (known_any w).mono ?_; rintro e w3 ⟨rfl, x3⟩
        go_wp2_with fail
        go_ret
        exact ⟨rfl, x3⟩
      · subst h1
        have q3 : ¬ ((4000 : Int) < (S : Int)) := by omega
        have q4 : (8 : Int) < (k : Int) := by omega
        clear hS
        go_wp2_with fail
        refine (known_any w).mono ?_; rintro e w3 ⟨rfl, x3⟩
        go_wp2_with fail
        go_ret
        exact ⟨rfl, x3⟩
      · subst h1
        have q3 : ¬ ((4000 : Int) < (S : Int)) := by omega
        have q4 : ¬ ((8 : Int) < (k : Int)) := by omega
        clear hS
        go_wp2_with fail
        refine (known_any w).mono ?_; rintro e w3 ⟨rfl, x3⟩
        go_wp2_with fail
        go_ret
        exact ⟨rfl, x3⟩
      · subst h1
        have q3 : ¬ ((4000 : Int) < (S : Int)) := by omega
        have q4 : ¬ ((8 : Int) < (k : Int)) := by omega
        have q5 : ¬ (term < 1) := by omega
        clear hS
        go_wp2_with fail
        refine (known_any w).mono ?_; rintro e w3 ⟨rfl, x3⟩
        go_wp2_with fail
        go_ret
        exact ⟨rfl, x3⟩
      · subst h1
        have q3 : ¬ ((4000 : Int) < (S : Int)) := by omega
        have q4 : ¬ ((8 : Int) < (k : Int)) := by omega
        have q5 : ¬ (term < 1) := by omega
        have q6 : ¬ ((1073741824 : Int) < term) := by omega
        obtain ⟨t, rfl⟩ : ∃ t : Nat, term = (t : Int) := ⟨term.toNat, by omega⟩
        have hsum : sumR rows ≤ 4000 := by rw [List.take_of_length_le (by omega)] at hS; omega
        have Hsum := Lib.hid hsum
        have Hm := Lib.hid (And.intro hm (And.intro h3 (And.intro h4 h5)))
        clear hS hsum hm h2 h3 h4 h5 hm2 hk
        go_wp2_with fail
        refine (New_any 1048576 (by omega) w).mono ?_; rintro e w1 ⟨d, rfl, hd, hD, x1⟩
        have HD := Lib.hid hD
        have Hx1 := Lib.hid x1
        clear hD x1
        go_wp2_with fail
        refine (Open_new 0 3 d _ 1048576 draw w1 HD.out (by omega) (.inr (.inl rfl))).mono ?_; rintro e w2 ⟨r0, rfl, x2, hR2⟩
        have hx2 : Ext NoB w w2 := Hx1.out.next x2 (fun b h hb => h.elim id (fun h => by omega))
        have hab : ∀ b, Gr (Gr NoB w w1) w1 w2 b → w.heap.size ≤ b := fun b hb => by
          have := Hx1.out.size
          rcases hb with (hb | hb) | hb
          · exact hb.elim
          · exact hb.1
          · omega
        have HR2 := Lib.hid hR2
        have Hx2 := Lib.hid hx2
        have Hab := Lib.hid hab
        obtain ⟨F2, hF2⟩ : ∃ F2, Gr (Gr NoB w w1) w1 w2 = F2 := ⟨_, rfl⟩
        rw [hF2] at HR2 Hab
        clear x2 hR2 hx2 hab hF2 Hx1 HD hd
        go_wp2_with fail
        go_loopw [13, 14] (fun v i wr' => ∃ j : Nat, i = .int .i64 (j : Int) ∧ j ≤ k ∧ Hid (Own wr' 5 1 v (bytesV (entsB ((rows.take j).map rowE)))) ∧ Hid (Fresh w2 v) ∧ Hid (Ext NoB w2 wr')) (fun _ i _ => k - (intOf i).toNat)
        case atStart => exact ⟨0, rfl, by omega, Lib.hid (Own.nil _ _ _), Lib.hid (Fresh.nil _ _ _), Lib.hid (Ext.refl _ _)⟩
        case round =>
          obtain ⟨j, rfl, hj, HO, Hf, HX⟩ := hrel
          by_cases hlt : j < k
          · obtain ⟨l, hl⟩ : ∃ l, rows[j]? = some l := ⟨_, List.getElem?_eq_getElem (by have := Hm.out.1; omega)⟩
            obtain ⟨rb, ro, ra, rc, rfl, hck, hrd, hll⟩ := Hr.out j l hl
            have hlm := sumR_mem (List.mem_of_getElem? hl)
            have hll4 : l.length ≤ 4000 := by have := Hsum.out; omega
            have hsn : (rows.take (j + 1)).map rowE = (rows.take j).map rowE ++ [(1, l)] := by rw [take_succ_some hl]; simp [rowE]
            have hlb : (entsB ((rows.take j).map rowE)).length ≤ 8000160 := by
              have h1 := entsB_len ((rows.take j).map rowE) (fun e he => by
                obtain ⟨x, hx, rfl⟩ := List.mem_map.1 he
                have := sumR_mem (List.mem_of_mem_take hx)
                have := Hsum.out
                exact ⟨by show 1 ≤ _; omega, by show x.length ≤ _; omega⟩)
              have h2 : ((rows.take j).map rowE).length ≤ 8 := by rw [List.length_map, List.length_take]; omega
              omega
            obtain ⟨b0, hb0⟩ : ∃ b0, entsB ((rows.take j).map rowE) = b0 := ⟨_, rfl⟩
            rw [hb0] at hlb HO
            have hck4 := (Hx2.out.trans HX.out).cell hck (fun h => h)
            have hj0 : (0 : Int) ≤ (j : Int) := by omega
            have hj1 : (j : Int) < (k : Int) := by omega
            have hjn : ((j : Int)).toNat = j := by omega
            have Hsn := Lib.hid (And.intro hsn hb0)
            have Hlb := Lib.hid (And.intro hlb hll4)
            have Hrd := Lib.hid ((hrd.no Hx2.out))
            have Hrow := Lib.hid hck
            clear hsn hb0 hlb hrd hck hl hlm hll hll4
            go_wp2_with (at_builtin; refine wpList_app1 _ rfl (.tmp 82) (.tmp 83) 35 rfl 5 1 unBytes elByte HO.out rfl rfl rfl (by rw [bytesV_length]; have := Hlb.out; omega) (by decide) ?_; intro v5 w5 o5 x5 h5; refine halt2 (fun _K HK => ?_))
            obtain ⟨b1, hb1⟩ : ∃ b1, b0 ++ uv 1 = b1 := ⟨_, rfl⟩
            have o5' : Own w5 5 1 v5 (bytesV b1) := by
              rw [← hb1, bytesV_append]
              exact o5
            have hb1l : b1.length ≤ 8000170 := by rw [← hb1, List.length_append]; have := Hlb.out; have := uv_length 1; omega
            have y5 : Ext NoB w2 w5 := Hf.out.ext HX.out x5
            have f5 : Fresh w2 v5 := Hf.out.app HX.out.size h5
            obtain ⟨a5, n5, c5, rfl, _⟩ := o5'.rd
            have hck5 := (Hx2.out.trans y5).cell Hrow.out (fun h => h)
            have Ho5 := Lib.hid o5'
            have Hy5 := Lib.hid y5
            have Hf5 := Lib.hid f5
            have Hb1 := Lib.hid (And.intro hb1 hb1l)
            clear o5 o5' x5 h5 y5 f5 hb1 hb1l hck4
            refine HK.out ?_; clear HK _K
            go_wp2_with fail
            go_loopw [13, 15] (fun v x wi => ∃ (q xn : Nat) (bs : List UInt8), x = .int .i64 (xn : Int) ∧ 1 ≤ q ∧ q ≤ 10 ∧ xn < 2 ^ (7 * q) ∧ xn ≤ 4000 ∧ Hid (bs.length + q = 10 ∧ bs ++ uvF q xn = uv l.length) ∧ Hid (Own wi 5 1 v (bytesV (b1 ++ bs))) ∧ Hid (Fresh w2 v) ∧ Hid (Ext NoB w2 wi)) (fun _ x _ => (intOf x).toNat)
            case atStart => exact ⟨10, l.length, [], rfl, by omega, by omega, Nat.lt_of_le_of_lt Hlb.out.2 (by decide), Hlb.out.2, Lib.hid ⟨rfl, rfl⟩, by rw [List.append_nil]; exact Ho5, Hf5, Hy5⟩
            case round =>
              obtain ⟨q, xn, bs, rfl, hq1, hq, hxq, hx4, HU, HOi, Hfi, HXi⟩ := hrel
              have hbsl : (bytesV (b1 ++ bs)).length ≤ 8000200 := by rw [bytesV_length, List.length_append]; have := HU.out.1; have := Hb1.out.2; omega
              have Hbsl := Lib.hid hbsl
              clear hbsl
              by_cases hx : xn < 128
              · have hx1 : (xn : Int) < 128 := by omega
                go_wp2_with (at_builtin; refine wpList_app1 _ rfl (.tmp 94) (.tmp 97) 35 rfl 5 1 unBytes elByte HOi.out rfl rfl rfl (by have := Hbsl.out; omega) (by decide) ?_; intro v6 w6 o6 x6 h6; refine halt2 (fun _K HK => ?_))
                obtain ⟨q, rfl⟩ : ∃ q', q = q' + 1 := ⟨q - 1, by omega⟩
                obtain ⟨b2, hb2⟩ : ∃ b2, b1 ++ uv l.length = b2 := ⟨_, rfl⟩
                have hb2l : b2.length ≤ 8000200 := by rw [← hb2, List.length_append]; have := Hb1.out.2; have := uv_length l.length; omega
                have o6' : Own w6 5 1 v6 (bytesV b2) := by
                  rw [← hb2, ← HU.out.2, uvF_small q xn hx, ← List.append_assoc, bytesV_append]
                  have e : (UInt8.ofNat xn).toNat = xn := by rw [UInt8.toNat_ofNat']; omega
                  simpa [bytesV, e] using o6
                have y6 : Ext NoB w2 w6 := Hfi.out.ext HXi.out x6
                have f6 : Fresh w2 v6 := Hfi.out.app HXi.out.size h6
                obtain ⟨a6, n6, c6, rfl, _⟩ := o6'.rd
                have hck6 := (Hx2.out.trans y6).cell Hrow.out (fun h => h)
                have hsr := (Hrd.out.no y6).src rc
                have Ho6 := Lib.hid o6'
                have Hy6 := Lib.hid y6
                have Hf6 := Lib.hid f6
                have Hb2 := Lib.hid (And.intro hb2 hb2l)
                have Hsr := Lib.hid hsr
                clear o6 o6' x6 h6 y6 f6 hb2 hb2l hck5 hsr hxq hx4
                refine HK.out ?_; clear HK _K
                go_wp2_with (at_builtin; refine wpList_app _ rfl (.tmp 105) (.tmp 109) 35 35 rfl 5 1 1 unBytes elByte Ho6.out Hsr.out rfl rfl (by simp only [bytesV_length]; have := Hb2.out.2; have := Hlb.out.2; omega) (by decide) ?_; intro v7 w7 o7 x7 h7; refine halt2 (fun _K HK => ?_))
                rw [← bytesV_append] at o7
                have y7 : Ext NoB w2 w7 := Hf6.out.ext Hy6.out x7
                have f7 : Fresh w2 v7 := Hf6.out.app Hy6.out.size h7
                have o7' : Own w7 5 1 v7 (bytesV (entsB ((rows.take (j + 1)).map rowE))) := by
                  rw [Hsn.out.1, entsB_snoc, Hsn.out.2]
                  show Own w7 _ 1 v7 (bytesV (((b0 ++ uv 1) ++ uv l.length) ++ l))
                  rw [Hb1.out.1, Hb2.out.1]
                  exact o7
                obtain ⟨a7, n7, c7, rfl, _⟩ := o7'.rd
                have Ho7 := Lib.hid o7'
                have Hy7 := Lib.hid y7
                have Hf7 := Lib.hid f7
                have hw3 : IntKind.i64.wrap ((j : Int) + 1) = (j : Int) + 1 := IntWalk.i64_in _ (by omega)
                clear o7 o7' x7 h7 y7 f7 hck6
                refine HK.out ?_; clear HK _K
                go_wp2_with fail
                refine ⟨⟨j + 1, by go_num, by omega, Ho7, Hf7, Hy7⟩, ?_⟩
                show k - ((j : Int) + 1).toNat < k - ((j : Int)).toNat
                omega
              · have hx1 : ¬ ((xn : Int) < 128) := by omega
                go_wp2_with (at_builtin; refine wpList_app1 _ rfl (.tmp 99) (.tmp 103) 35 rfl 5 1 unBytes elByte HOi.out rfl rfl rfl (by have := Hbsl.out; omega) (by decide) ?_; intro v6 w6 o6 x6 h6; refine halt2 (fun _K HK => ?_))
                obtain ⟨q, rfl⟩ : ∃ q', q = q' + 1 + 1 := by
                  refine ⟨q - 2, ?_⟩
                  have : q ≠ 1 := by rintro rfl; have : (2 : Nat) ^ (7 * 1) = 128 := rfl; omega
                  omega
                have hU := HU.out
                rw [uvF_big (q + 1) xn (by omega)] at hU
                have o6' : Own w6 5 1 v6 (bytesV (b1 ++ (bs ++ [UInt8.ofNat (xn % 128 + 128)]))) := by
                  rw [← List.append_assoc, bytesV_append]
                  rw [or128] at o6
                  exact o6
                have y6 : Ext NoB w2 w6 := Hfi.out.ext HXi.out x6
                have f6 : Fresh w2 v6 := Hfi.out.app HXi.out.size h6
                obtain ⟨a6, n6, c6, rfl, _⟩ := o6'.rd
                have Ho6 := Lib.hid o6'
                have Hy6 := Lib.hid y6
                have Hf6 := Lib.hid f6
                have HU2 := Lib.hid (And.intro (show (bs ++ [UInt8.ofNat (xn % 128 + 128)]).length + (q + 1) = 10 by rw [List.length_append]; have := hU.1; simp only [List.length_singleton]; omega) (show (bs ++ [UInt8.ofNat (xn % 128 + 128)]) ++ uvF (q + 1) (xn / 128) = uv l.length by rw [List.append_assoc]; exact hU.2))
                have hp7 := pow7 (q + 1) xn hxq
                have Hp7 := Lib.hid (And.intro hp7 (And.intro hx hx4))
                clear o6 o6' x6 h6 y6 f6 hck5 hU hp7 hxq hx4
                refine HK.out ?_; clear HK _K
                go_wp2_with fail
                have hwx : wrap64 ((xn : Int) / 128) = ((xn / 128 : Nat) : Int) := by
                  rw [show ((xn : Int) / 128) = ((xn / 128 : Nat) : Int) by omega]
                  exact wrap64_in _ (by have := Hp7.out.2.2; omega)
                rw [hwx]
                refine ⟨⟨q + 1, xn / 128, _, rfl, by omega, by omega, Hp7.out.1, by have := Hp7.out.2.2; omega, HU2, Ho6, Hf6, Hy6⟩, ?_⟩
                show (((xn / 128 : Nat) : Int)).toNat < ((xn : Int)).toNat
                have := Hp7.out.2
                omega
          · obtain rfl : j = k := by omega
            have hO := HO.out
            rw [List.take_of_length_le (by have := Hm.out.1; omega)] at hO
            obtain ⟨es, hes⟩ : ∃ es, rows.map rowE = es := ⟨_, rfl⟩
            rw [hes] at hO
            obtain ⟨B, hB⟩ : ∃ B, entsB es = B := ⟨_, rfl⟩
            rw [hB] at hO
            obtain ⟨da, dl, hdv, _, _⟩ := RdB.shape (l := B) hO.rd
            subst hdv
            have hnlt : ¬ ((j : Int) < (j : Int)) := by omega
            have Hes := Lib.hid (And.intro hes hB)
            have HO' := Lib.hid hO
            have HfB := Lib.hid (show ∀ g, (Value.slice da B.length dl).ownBlock = some g → w2.heap.size ≤ g from fun g hg => Hf.out g hg)
            clear hO HO hes hB hlt hj
            go_wp2_with fail
            obtain ⟨wn, NB, e1, e2, xn, bn, hsn⟩ := alloc_facts wr (.cells #[.int .i64 t, .int .i64 0, .int .i64 0, .int .i64 j] 3)
            rw [e1, e2]
            obtain ⟨hes, hB⟩ := Hes.out
            have hx2n : Ext NoB w2 wn := HX.out.trans xn
            have hR := HR2.out.no hx2n
            have hNBF : ¬ F2 NB := fun h => by have := HR2.out.lt NB h; have := HX.out.size; omega
            have hesl : es.length = j := by rw [← hes, List.length_map]; exact Hm.out.1
            have hON : Own wn 3 1 (.slice (some ⟨NB, 0, none⟩) 4 4) (intsV [(t : Int), ((0 : Nat) : Int), ((PNode.termOf (newNode 0 3 draw) 0 : Nat) : Int), (j : Int)]) := .inr ⟨NB, 4, 4, _, rfl, bn, Nat.le_refl _, Nat.le_refl _, by unfold maxLen; omega, rfl, rfl⟩
            have hOB : Own wn 5 1 (.slice da (entsB es).length dl) (bytesV (entsB es)) := by rw [hB]; exact HO'.out.no xn
            have hoffB : Off F2 (.slice da (entsB es).length dl) := fun g hg h => by
              have h1 : w2.heap.size ≤ g := by rw [hB] at hg; exact HfB.out g hg
              have := HR2.out.lt g h; omega
            have hesb : ∀ e ∈ es, e.1 ≤ 1099511627776 ∧ e.2.length ≤ 65536 := fun e he => by
              rw [← hes] at he
              obtain ⟨x, hx, rfl⟩ := List.mem_map.1 he
              have := sumR_mem hx
              have := Hsum.out
              exact ⟨by show 1 ≤ _; omega, by show x.length ≤ _; omega⟩
            have hear := Hear_ents_new r0 d F2 (newNode 0 3 draw) 1048576 false 1 t j 0 NB 0 da dl es es wn hR hON hNBF hOB hoffB hesb (by have := Hm.out; omega) (by show 1 < 3; omega) (by show 1 ≠ 0; omega) (by show 0 < t; have := Hm.out; omega) (by have := Hm.out; omega) (by show 0 ≤ _; omega) (Nat.zero_le _) (by have := Hm.out; omega) (toldL_end es []) (by have := Hm.out; omega)
              (by
                have h1 := segBytes_le es 1
                have h2 := rows_sum rows
                have h3 : (rows.map fun r => ((1, r) : Nat × List UInt8)) = es := hes
                rw [h3] at h2
                have := Hsum.out
                omega)
            rw [hB, hesl, Nat.zero_add] at hear
            obtain ⟨N3, hN3⟩ : ∃ N3, ((newNode 0 3 draw).newer_ t).told ((1 : Nat) : Int) 0 j j es = N3 := ⟨_, rfl⟩
            obtain ⟨M3, hM3⟩ : ∃ M3, tookMsg ((newNode 0 3 draw).newer_ t) (1 : Nat) 1 (j : Nat) = M3 := ⟨_, rfl⟩
            rw [hN3, hM3] at hear
            have Hear := Lib.hid hear
            have HN3 := Lib.hid (And.intro hN3 hM3)
            have Hxn := Lib.hid hx2n
            have Hesl := Lib.hid hesl
            clear hear hN3 hM3 hON hOB hoffB hesb hNBF hR hx2n hesl hes hB e1 e2 xn bn hsn
            refine Hear.out.mono ?_; rintro e w4 ⟨v4, rfl, hm4, hf4, x4, hR4⟩
            obtain ⟨vb, vc, nv, dv, rfl, k0, k1, k2, k3, k4, hnv, hdv⟩ := hm4.cells1
            have hM := HN3.out.2
            rw [← hM] at k2 hnv
            replace k2 : w4.cell? ⟨vb, 2, none⟩ = some (.int .i64 4) := k2
            replace hnv : Own w4 3 1 nv [.int .i64 (t : Int), .int .i64 1, .int .i64 (j : Int)] := hnv
            obtain ⟨na, nn, ncap, rfl, hnl, _, _, _, hnr⟩ := hnv.rd
            obtain rfl : nn = 3 := by simp at hnl; omega
            obtain ⟨nb, noff, rfl, hncell⟩ := hnr (by simp)
            have n1 := hncell 1 _ rfl
            have n2 := hncell 2 _ rfl
            have hsz := Hxn.out.size
            have hFw : ∀ b, Gr F2 wn w4 b → w.heap.size ≤ b := fun b hb => hb.elim (Hab.out b) (fun h => by have := Hx2.out.size; omega)
            have hxw4 : Ext NoB w w4 := ((Hx2.out.trans Hxn.out)).next x4 (fun b h hb => by have := Hab.out b h; omega)
            obtain ⟨F4, hF4⟩ : ∃ F4, Gr F2 wn w4 = F4 := ⟨_, rfl⟩
            rw [hF4] at hR4 hFw
            have hN3e := HN3.out.1
            have hlog3 : N3.log = es := by rw [← hN3e]; rfl
            have hcom3 : N3.committed = j := by rw [← hN3e]; show max 0 (min j j) = j; omega
            have htak3 : N3.taken = 0 := by rw [← hN3e]; rfl
            have hok3 : N3.Ok := fun e he => by
              rw [hlog3, ← Hes.out.1] at he
              obtain ⟨x, hx, rfl⟩ := List.mem_map.1 he
              have := sumR_mem hx
              have := Hsum.out
              exact ⟨by show 1 ≤ _; omega, by show x.length ≤ _; omega⟩
            have htake := Take_new r0 d F4 N3 1048576 true w4 hR4 hok3 (by omega)
            rw [hlog3, hcom3, htak3, List.drop_zero, List.take_of_length_le (by rw [Hesl.out]; omega)] at htake
            have Htake := Lib.hid htake
            have HF4 := Lib.hid hFw
            have HF4lt := Lib.hid hR4.lt
            have Hxw4 := Lib.hid hxw4
            have Hlog3 := Lib.hid (And.intro hlog3 hok3)
            have hq1 : ((j : Int) == (j : Int)) = true := by simp
            clear htake hFw hF4 hxw4 hlog3 hcom3 htak3 hok3 hR4 x4 hm4 hf4 hnv hncell hnr hnl hdv k0 k1 k4 hM hN3e hsz
            go_wp2_with fail
            refine Htake.out.mono ?_; rintro e w5 ⟨v5, rfl, hm5, hf5, x5, hR5⟩
            obtain ⟨ms5, hms5, hown5, hnew5⟩ := hm5
            have hml5 := hms5.len
            obtain ⟨va, vn, vcap, rfl, hvl, _, _, _, _⟩ := hown5.rd
            obtain rfl : vn = j := by have := Hesl.out; omega
            have hEN : EntsNew w4 w5 (.slice va vn vcap) es := ⟨ms5, hms5, hown5, hnew5⟩
            have Hcr := Lib.hid (Crash_any r0 d F4 (N3.takes vn) 1048576 true draw w5 hR5)
            have HEN := Lib.hid hEN
            have Hf5 := Lib.hid hf5
            have Hx5 := Lib.hid x5
            have HR5 := Lib.hid (And.intro hR5.lt (And.intro hR5.vote hR5.term))
            clear hms5 hown5 hnew5 hml5 hvl hEN hf5 x5 hR5 n1 n2 k2
            go_wp2_with fail
            refine Hcr.out.mono ?_; rintro e w6 ⟨rfl, x6, D6, ps6, hd6, hrm6, hp6, hch6, hl6, hcoh6⟩
            have hN3e := HN3.out.1
            have e1 : (N3.takes vn).log = es := Hlog3.out.1
            have e2 : (N3.takes vn).term = t := by rw [← hN3e]; rfl
            have e3 : (N3.takes vn).vote = -1 := by rw [← hN3e]; rfl
            rw [e1] at hch6 hl6 hcoh6
            rw [e2, e3] at hp6
            have hopen := Open_canon 0 3 d _ D6 draw t (-1) ps6 (es.length + 1) es w6 hd6 hp6 hch6 (by omega) hcoh6 (fun e he => Hlog3.out.2 e (by rw [← e1] at he; exact he)) (by omega) (.inr (.inl rfl)) (by have := Hm.out; omega) (by omega)
            have Hopen := Lib.hid hopen
            have Hx6 := Lib.hid x6
            clear hopen x6 hd6 hrm6 hp6 hch6 hl6 hcoh6 e1 e2 e3 hN3e
            go_wp2_with fail
            refine Hopen.out.mono ?_; rintro e w7 ⟨r7, rfl, x7, hR7⟩
            have x57 : Ext F4 w5 w7 := Hx6.out.next x7 (fun b hb hl => hb.elim id (fun h => by omega))
            have hEN7 := HEN.out.ext Hf5.out x57 (fun b hb => .inl (HF4lt.out b hb))
            have hxw7 : Ext NoB w w7 := ((Hxw4.out.next Hx5.out (fun b h hb => by have := HF4.out b h; omega)).next x57 (fun b h hb => by have := HF4.out b h; omega))
            obtain ⟨D7, ps7, hN7, _, _⟩ := hR7.is
            have hst := State_any r7 d _ _ D7 ps7 w7 hN7
            replace hst : Calls Tryz.prog 18 #[.pointer (some ⟨r7, 0, none⟩)] w7 fun e w' => e = .returned (.tuple #[.int .i64 0, .int .i64 t, .int .i64 (-1)]) ∧ Ext NoB w7 w' := hst
            have hlg := fun (w' : World) (x : Ext NoB w7 w') => Log_any r7 d _ _ D7 ps7 w' (hN7.no x)
            have hlen : ({ savedNode 0 3 draw t (-1) with log := es } : PNode).log.length = vn := Hesl.out
            have Hst := Lib.hid hst
            have Hlg := Lib.hid hlg
            have HE7 := Lib.hid hEN7
            have Hxw7 := Lib.hid hxw7
            have Hlen := Lib.hid hlen
            clear hst hlg hEN7 hxw7 hN7 hR7 x7 x57 hlen
            go_wp2_with fail
            refine Hst.out.mono ?_; rintro e w8 ⟨rfl, x8⟩
            have Hx8 := Lib.hid x8
            clear x8
            go_wp2_with fail
            have hlg8 := Hlg.out w8 Hx8.out
            rw [Hlen.out] at hlg8
            replace hlg8 : Calls Tryz.prog 22 #[.pointer (some ⟨r7, 0, none⟩)] w8 fun e w' => e = .returned (.tuple #[.int .i64 vn, .int .i64 0]) ∧ Ext NoB w8 w' := hlg8
            refine hlg8.mono ?_; rintro e w9 ⟨rfl, x9⟩
            have Hx9 := Lib.hid (Hx8.out.trans x9)
            clear x9 hlg8
            obtain ⟨ms7, hms7, hown7, _⟩ := HE7.out
            have hcell7 : ∀ (i : Nat) (u : Value), ms7.flatten[i]? = some u → ∃ tb toff, va = some ⟨tb, toff, none⟩ ∧ w7.cell? ⟨tb, toff + i, none⟩ = some u := fun i u hu => by
              obtain ⟨va', vn', vc', hv, _, _, _, _, hvr⟩ := hown7.rd
              cases hv
              obtain ⟨tb, toff, h1, h2⟩ := hvr (by intro h; rw [h] at hu; cases hu)
              exact ⟨tb, toff, h1, h2 i u hu⟩
            have Hms7 := Lib.hid hms7
            have Hcell7 := Lib.hid hcell7
            clear hms7 hown7 hcell7
            go_wp2_with fail
            go_loopw [25] (fun i wl => ∃ k : Nat, i = .int .i64 (k : Int) ∧ k ≤ vn ∧ Hid (Ext NoB w7 wl)) (fun i _ => vn - (intOf i).toNat)
            case atStart => exact ⟨0, rfl, by omega, Hx9⟩
            case round =>
              obtain ⟨k, rfl, hk, HXl⟩ := hrel
              by_cases hlt : k < vn
              · obtain ⟨l, hl⟩ : ∃ l, rows[k]? = some l := ⟨_, List.getElem?_eq_getElem (by have := Hm.out.1; omega)⟩
                obtain ⟨rb, ro, ra, rcc, rfl, hck, hrd, hll⟩ := Hr.out k l hl
                have hesk : es[k]? = some (1, l) := by rw [← Hes.out.1, List.getElem?_map, hl]; rfl
                obtain ⟨tv, g0, g1, hot⟩ := Hms7.out.get k (1, l) hesk
                obtain ⟨tb, toff, hva, hc0⟩ := Hcell7.out _ _ g0
                subst hva
                obtain ⟨tb', toff', hva', hc1⟩ := Hcell7.out _ _ g1
                cases hva'
                obtain ⟨ta, tcp, rfl, _, _⟩ := RdB.shape (l := l) hot.rd
                replace hc0 := HXl.out.cell hc0 (fun h => h)
                replace hc1 := HXl.out.cell hc1 (fun h => h)
                rw [← Nat.add_assoc] at hc1
                replace hc0 : (wr : World).cell? ⟨tb, toff + k * 2, none⟩ = some (.int .i64 1) := hc0
                have hckl := (Hxw7.out.trans HXl.out).cell hck (fun h => h)
                have hlm := sumR_mem (List.mem_of_getElem? hl)
                have hll4 : l.length ≤ 4000 := by have := Hsum.out; omega
                have hsame := fun (n : Nat) => same16_eq ta ra tcp rcc l (wr.drewN n) ((RdB.cells (l := l) hot.rd).no (HXl.out.trans ((Ext.refl _ wr).drewN n))) ((hrd.no (Hxw7.out.trans HXl.out)).no ((Ext.refl _ wr).drewN n)) (by omega)
                have Hsame := Lib.hid hsame
                have hk0 : (0 : Int) ≤ (k : Int) := by omega
                have hk1 : (k : Int) < (vn : Int) := by omega
                have hkn : ((k : Int)).toNat = k := by omega
                have hw3 : IntKind.i64.wrap ((k : Int) + 1) = (k : Int) + 1 := IntWalk.i64_in _ (by omega)
                clear hl hck hrd hll hesk g0 g1 hot hlm hll4 hsame
                go_wp2_with fail
                go_quiet (first | (go_at_call 23; exact Calls.quiet_of (Hsame.out _)))
                go_wp2_with fail
                refine ⟨⟨k + 1, by go_num, by omega, Lib.hid (HXl.out.nextNo ((Ext.refl _ wr).drewN _))⟩, ?_⟩
                show vn - ((k : Int) + 1).toNat < vn - ((k : Int)).toNat
                omega
              · obtain rfl : k = vn := by omega
                go_wp2_with fail
                refine (known_any wr).mono ?_; rintro e w3 ⟨rfl, x3⟩
                go_wp2_with fail
                go_ret
                exact ⟨rfl, (Hxw7.out.trans HXl.out).trans x3⟩
end Go.Proofs.YtgglbholbkdgfaaGreatDoor
