/- Joined texts: B74 B75 B76 B77 B78. Each has its own head. -/
import Derived.Laws.IdiomStrings
import Derived.Test.YtgglbholbkdgfaaGreatDoorK8
import Derived.Test.YtgglbholbkdgfaaGreatDoorK9
import Derived.Test.YtgglbholbkdgfaaGreatDoorK13
import Derived.Test.YtgglbholbkdgfaaGreatDoorK6
import Derived.Test.YtgglbholbkdgfaaGreatDoorK7
set_option linter.unusedVariables false
set_option linter.unusedSimpArgs false
namespace Go.Proofs.YtgglbholbkdgfaaGreatDoor
open Go.RowKit
set_option maxRecDepth 100000 in
set_option maxHeartbeats 1000000 in
theorem bytes_ok (X n bn : Nat) (a : Option Addr) (c : Nat) (w : World) (hb : w.heap[X]? = some (.cells #[.slice a bn c, .bool false] 97 (0, 0))) (hn : n ≤ bn) (hlc : bn ≤ c) (hc : c ≤ maxLen) :
  Calls Tryz.prog 107 #[.pointer (some ⟨X, 0, none⟩), .int .i64 n] w fun e w' => e = .returned (.slice a n n) ∧ Ext (fun b => b = X) w w' ∧
   w'.heap[X]? = some (.cells #[.slice (subA a n c) (bn - n) (c - n), .bool false] 97 (0, 0)) := by
 have c0 : w.cell? ⟨X, 0, none⟩ = some (.slice a bn c) := by rw [cell_of_blk hb]; rfl
 have c1 : w.cell? ⟨X, 1, none⟩ = some (.bool false) := by rw [cell_of_blk hb]; rfl
 have f0 : w.frozen? ⟨X, 0, none⟩ = false := frozen_of_blk hb 0
 have hs1 := fun (w : World) => run_sub_hm (P := Tryz.prog) w 35 5 unBytes szByte a bn c .i64 .i64 (n : Int) (n : Int) (by omega) (by omega) (by omega)
 have hs2 := fun (w : World) => run_sub_l (P := Tryz.prog) w 35 5 unBytes szByte a bn c .i64 (n : Int) (by omega) (by omega)
 have hq : ¬ ((bn : Int) < (n : Int)) := by omega
 have HB := Lib.hid hb
 clear hb
 go_enter Tryz.func107, Tryz.ntmps107
 go_wp2_with fail
 go_ret
 refine ⟨rfl, (Ext.refl (fun b => b = X) w).setCell (p := ⟨X, 0, none⟩) (.inl rfl) _, ?_⟩
 have := blk_setCell HB.out 0 (.slice (subA a n c) (bn - n) (c - n))
 exact this
def EntRd (w : World) (b : Nat) (m : List Value) (e : Nat × List UInt8) : Prop := ∃ a, m = [.int .i64 e.1, .slice a e.2.length e.2.length] ∧ RdB w (.slice a e.2.length e.2.length) e.2 ∧ Off (fun x => x ≠ b) (.slice a e.2.length e.2.length)
theorem EntRd.ext {w w' : World} {G : Nat → Prop} {b : Nat} {m : List Value} {e : Nat × List UInt8} (h : EntRd w b m e) (x : Ext G w w') (hG : ¬ G b) : EntRd w' b m e := by
 obtain ⟨a, rfl, h1, h2⟩ := h
 exact ⟨a, rfl, Rd.ext h1 x (fun g hg h => hG ((Decidable.not_not.1 (h2 g hg)) ▸ h)), h2⟩
theorem EntRd.one {w : World} {b : Nat} {m : List Value} {e : Nat × List UInt8} (h : EntRd w b m e) : m.length = 2 ∧ ∀ u ∈ m, u.oneCell' = true := by
 obtain ⟨a, rfl, _, _⟩ := h
 refine ⟨rfl, fun u hu => ?_⟩
 simp only [List.mem_cons, List.not_mem_nil, or_false] at hu
 rcases hu with rfl | rfl <;> rfl
inductive EntRds (w : World) (b : Nat) : List (List Value) → List (Nat × List UInt8) → Prop
 | nil : EntRds w b [] []
 | snoc {ms : List (List Value)} {es : List (Nat × List UInt8)} {m : List Value} {e : Nat × List UInt8} : EntRds w b ms es → EntRd w b m e → EntRds w b (ms ++ [m]) (es ++ [e])
theorem EntRds.ext {w w' : World} {G : Nat → Prop} {b : Nat} {ms : List (List Value)} {es : List (Nat × List UInt8)} (h : EntRds w b ms es) (x : Ext G w w') (hG : ¬ G b) : EntRds w' b ms es := by
 induction h with
 | nil => exact .nil
 | snoc _ h2 ih => exact .snoc ih (h2.ext x hG)
theorem EntRds.len {w : World} {b : Nat} {ms : List (List Value)} {es : List (Nat × List UInt8)} (h : EntRds w b ms es) : ms.flatten.length = es.length * 2 ∧ ms.length = es.length := by
 induction h with
 | nil => exact ⟨rfl, rfl⟩
 | snoc _ h2 ih =>
  simp only [List.flatten_append, List.flatten_cons, List.flatten_nil, List.append_nil, List.length_append, List.length_cons, List.length_nil, ih.1, ih.2, h2.one.1]
  exact ⟨by omega, trivial⟩
theorem EntRds.get {w : World} {b : Nat} {ms : List (List Value)} {es : List (Nat × List UInt8)} (h : EntRds w b ms es) : ∀ (i : Nat) (e : Nat × List UInt8), es[i]? = some e → ∃ a, ms.flatten[i * 2]? = some (.int .i64 e.1) ∧ ms.flatten[i * 2 + 1]? = some (.slice a e.2.length e.2.length) ∧ RdB w (.slice a e.2.length e.2.length) e.2 ∧ Off (fun x => x ≠ b) (.slice a e.2.length e.2.length) := by
 induction h with
 | nil => intro i e h; cases h
 | @snoc ms es m e0 h1 h2 ih =>
  intro i e hi
  have hl := h1.len
  by_cases hlt : i < es.length
  ·rw [List.getElem?_append_left hlt] at hi
   obtain ⟨a, q1, q2, q3⟩ := ih i e hi
   refine ⟨a, ?_, ?_, q3⟩
   ·rw [List.flatten_append, List.getElem?_append_left (by omega)]; exact q1
   ·rw [List.flatten_append, List.getElem?_append_left (by omega)]; exact q2
  ·have hie : i = es.length := by have := (List.getElem?_eq_some_iff.1 hi).1; simp at this; omega
   subst hie
   rw [List.getElem?_append_right (Nat.le_refl _), Nat.sub_self] at hi
   obtain rfl : e0 = e := by simpa using hi
   obtain ⟨a, rfl, q1, q2⟩ := h2
   refine ⟨a, ?_, ?_, q1, q2⟩
   ·rw [List.flatten_append, List.getElem?_append_right (by omega), hl.1, Nat.sub_self]; rfl
   ·rw [List.flatten_append, List.getElem?_append_right (by omega), hl.1, show es.length * 2 + 1 - es.length * 2 = 1 by omega]; rfl
theorem entsB_cons (e : Nat × List UInt8) (l : List (Nat × List UInt8)) : entsB (e :: l) = uv e.1 ++ (uv e.2.length ++ (e.2 ++ entsB l)) := by simp [entsB]
def slLen : Value → Nat
 | .slice _ n _ => n
 | _ => 0
theorem Off.at {b : Nat} {a : Option Addr} {n c n' c' : Nat} (h : Off (fun x => x ≠ b) (.slice a n c)) : Off (fun x => x ≠ b) (.slice a n' c') := by
 intro g hg
 apply h g
 cases a <;> exact hg
def RdrAt (w : World) (X b : Nat) (l : List UInt8) : Prop := ∃ a n c, n = l.length ∧ w.heap[X]? = some (.cells #[.slice a n c, .bool false] 97 (0, 0)) ∧ RdB w (.slice a n c) l ∧ n ≤ c ∧ c ≤ maxLen ∧ Off (fun x => x ≠ b) (.slice a n c)
theorem RdrAt.no {w w' : World} {X b : Nat} {l : List UInt8} (h : RdrAt w X b l) (x : Ext NoB w w') : RdrAt w' X b l := by
 obtain ⟨a, n, c, h1, h2, h3, h4⟩ := h
 exact ⟨a, n, c, h1, x.blk h2 (fun h => h), Rd.no h3 x, h4⟩
theorem RdrAt.number {w : World} {X b n : Nat} {l tl : List UInt8} (h : RdrAt w X b l) (hX : X ≠ b) (he : l = uv n ++ tl) (hn : n ≤ 1099511627776) (hl : l.length < 1000000000000) :
  Calls Tryz.prog 37 #[.pointer (some ⟨X, 0, none⟩)] w fun e w' => e = .returned (.int .i64 n) ∧ Ext (fun b => b = X) w w' ∧ RdrAt w' X b tl := by
 obtain ⟨a, k, c, rfl, h2, h3, h4, h5, h6⟩ := h
 refine (number_ok X n a c l tl w h2 h3 he hn hl h4).mono ?_
 rintro e w' ⟨rfl, x, hb⟩
 have hlen : l.length = (uv n).length + tl.length := by rw [he, List.length_append]
 refine ⟨rfl, x, _, _, _, ?_, hb, ?_, by omega, by omega, h6.sub _ _ _ _⟩
 ·omega
 ·have q1 : RdB w' (.slice a l.length c) l := Rd.ext h3 x (fun g hg e => hX (e.symm.trans (Decidable.not_not.1 (h6 g hg))))
  have q2 := RdB.drop q1 (uv n).length (by omega) h4
  rw [he, List.drop_left] at q2
  rw [he]
  exact q2
theorem RdrAt.bytes {w : World} {X b : Nat} {l x tl : List UInt8} (h : RdrAt w X b l) (hX : X ≠ b) (he : l = x ++ tl) :
  Calls Tryz.prog 107 #[.pointer (some ⟨X, 0, none⟩), .int .i64 x.length] w fun e w' => ∃ a, e = .returned (.slice a x.length x.length) ∧ RdB w' (.slice a x.length x.length) x ∧ Off (fun y => y ≠ b) (.slice a x.length x.length) ∧ Ext (fun b => b = X) w w' ∧ RdrAt w' X b tl := by
 obtain ⟨a, k, c, rfl, h2, h3, h4, h5, h6⟩ := h
 have hlen : l.length = x.length + tl.length := by rw [he, List.length_append]
 refine (bytes_ok X x.length l.length a c w h2 (by omega) h4 h5).mono ?_
 rintro e w' ⟨rfl, xx, hb⟩
 have q1 : RdB w' (.slice a l.length c) l := Rd.ext h3 xx (fun g hg e => hX (e.symm.trans (Decidable.not_not.1 (h6 g hg))))
 refine ⟨a, rfl, ?_, h6.at, xx, _, _, _, ?_, hb, ?_, by omega, by omega, h6.sub _ _ _ _⟩
 ·have := RdB.sub0 q1 x.length x.length (by omega) (by omega) (by omega)
  rw [he, List.take_left] at this
  exact this
 ·omega
 ·have q2 := RdB.drop q1 x.length (by omega) h4
  rw [he, List.drop_left] at q2
  rw [he]
  exact q2
end Go.Proofs.YtgglbholbkdgfaaGreatDoor
namespace Go.Proofs.YtgglbholbkdgfaaGreatDoor
open Go.RowKit
theorem take_succ_some {α : Type} {l : List α} {k : Nat} {e : α} (h : l[k]? = some e) : l.take (k + 1) = l.take k ++ [e] := by
 rw [List.take_add_one, h]; rfl
theorem drop_some {α : Type} {l : List α} {k : Nat} {e : α} (h : l[k]? = some e) : l.drop k = e :: l.drop (k + 1) := by
 obtain ⟨h1, h2⟩ := List.getElem?_eq_some_iff.1 h
 rw [List.drop_eq_getElem_cons h1, h2]
def SentEnds (b : Nat) (es : List (Nat × List UInt8)) (w : World) (e : Ending) (w' : World) : Prop :=
 ∃ v ms, e = .returned (.tuple #[v, .bool true]) ∧ EntRds w' b ms es ∧ Own w' 50 2 v ms.flatten ∧ Fresh w v ∧ Ext NoB w w'
set_option maxRecDepth 100000 in
set_option maxHeartbeats 4000000 in
theorem sent_ok (b o c : Nat) (bl : List UInt8) (es : List (Nat × List UInt8)) (w : World) (hr : RdB w (.slice (some ⟨b, o, none⟩) bl.length c) bl) (he : bl = entsB es) (hb : b < w.heap.size) (hl : es.length ≤ 8)
  (hes : ∀ e ∈ es, e.1 ≤ 1099511627776 ∧ e.2.length ≤ 1000000) :
  Calls Tryz.prog 84 #[.slice (some ⟨b, o, none⟩) bl.length c] w (SentEnds b es w) := by
 have hbn : bl.length ≤ c ∧ c ≤ maxLen := by obtain ⟨_, _, h1, h2, h3⟩ := hr.shape; cases h1; exact ⟨h2, h3⟩
 have hbl : ∀ k, (entsB (es.drop k)).length ≤ 8000160 := fun k => by
  have h1 := entsB_len (es.drop k) (fun e h => hes e (List.mem_of_mem_drop h))
  have h2 : (es.drop k).length ≤ 8 := by rw [List.length_drop]; omega
  omega
 have hze := fun (w : World) => (show (zeroValue 50).run Tryz.prog w = .ok (.agg #[.int .i64 0, .slice none 0 0]) w by kernel_rfl)
 have hzr := fun (w : World) => (show (zeroValue 97).run Tryz.prog w = .ok (.agg #[.slice none 0 0, .bool false]) w by kernel_rfl)
 have Hr := Lib.hid hr
 have He := Lib.hid he
 have Hb := Lib.hid hb
 have Hl := Lib.hid hl
 have Hes := Lib.hid hes
 have Hbn := Lib.hid hbn
 have Hbl := Lib.hid hbl
 clear hr he hb hl hes hbn hbl
 go_enter Tryz.func84, Tryz.ntmps84
 go_wp2_with fail
 obtain ⟨w1, X, e1, e2, x1, b1, hs1⟩ := alloc_facts w (.cells #[.slice (some ⟨b, o, none⟩) bl.length c, .bool false] 97)
 rw [e1, e2]
 have hXb : X ≠ b := by have := Hb.out; omega
 have hR1 : RdrAt w1 X b (entsB (es.drop 0)) := ⟨_, _, _, by rw [List.drop_zero, ← He.out], b1, by rw [List.drop_zero, ← He.out]; exact Hr.out.no x1, Hbn.out.1, Hbn.out.2, fun g hg h => h (by cases hg; rfl)⟩
 have HR1 := Lib.hid hR1
 have HXw : Hid (w.heap.size ≤ X) := Lib.hid (by omega)
 have Hx1 := Lib.hid x1
 clear hR1 b1 e1 e2 hs1 x1
 go_wp2_with fail
 go_loopw [5] (fun v wr => ∃ k ms, k ≤ es.length ∧ Hid (RdrAt wr X b (entsB (es.drop k))) ∧ Hid (EntRds wr b ms (es.take k)) ∧ Hid (Own wr 50 2 v ms.flatten) ∧ Hid (Fresh w1 v) ∧ Hid (Ext (fun y => y = X) w1 wr)) (fun v _ => es.length - slLen v)
 case atStart => exact ⟨0, [], by omega, HR1, Lib.hid .nil, Lib.hid (Own.nil _ _ _), Lib.hid (Fresh.nil _ _ _), Lib.hid (Ext.refl _ _)⟩
 case round =>
  obtain ⟨k, ms, hk, HR, Hms, HO, Hfr, HX⟩ := hrel
  obtain ⟨ra, rn, rc, hrn, hbX, _, _, _, _⟩ := HR.out
  have c0 : wr.cell? ⟨X, 0, none⟩ = some (.slice ra rn rc) := by rw [cell_of_blk hbX]; rfl
  have c1 : wr.cell? ⟨X, 1, none⟩ = some (.bool false) := by rw [cell_of_blk hbX]; rfl
  obtain ⟨va, vn, vc, rfl, hvl, _⟩ := HO.out.rd
  obtain rfl : vn = k := by have h1 := Hms.out.len.1; rw [List.length_take] at h1; omega
  have HK := Lib.hid hk
  have hk8 : (vn : Int) ≤ 8 := by have := Hl.out; omega
  have hXl := lt_of_blk hbX
  have hRs := HO.out.lt
  clear hbX hvl hk
  by_cases hlt : vn < es.length
  ·obtain ⟨e0, he0⟩ : ∃ e, es[vn]? = some e := ⟨_, List.getElem?_eq_getElem hlt⟩
   obtain ⟨et, ed⟩ := e0
   obtain ⟨hem1, hem2⟩ := Hes.out _ (List.mem_of_getElem? he0)
   have hcons : entsB (es.drop vn) = uv et ++ (uv ed.length ++ (ed ++ entsB (es.drop (vn + 1)))) := by rw [drop_some he0, entsB_cons]
   have hpos : (0 : Int) < (rn : Int) := by
    have h1 : 1 ≤ (uv et).length := uvF_pos 10 et (by omega)
    rw [hrn, hcons, List.length_append]; omega
   obtain ⟨rest, hrest⟩ : ∃ rest, entsB (es.drop (vn + 1)) = rest := ⟨_, rfl⟩
   obtain ⟨cur, hcur⟩ : ∃ cur, entsB (es.drop vn) = cur := ⟨_, rfl⟩
   have hcl : cur.length ≤ 8000160 := by rw [← hcur]; exact Hbl.out vn
   rw [hcur] at hcons HR
   rw [hrest] at hcons
   have hcl2 : (uv ed.length ++ (ed ++ rest)).length ≤ 8000160 := by rw [hcons, List.length_append] at hcl; omega
   have hmem : Hid (et ≤ 1099511627776 ∧ ed.length ≤ 1000000) := Lib.hid ⟨hem1, hem2⟩
   have He0 := Lib.hid he0
   have Hcons := Lib.hid hcons
   have Hcl := Lib.hid (And.intro hcl hcl2)
   have Hrest := Lib.hid hrest
   have Hlt := Lib.hid hlt
   clear hcons he0 hem1 hem2 hcl hcl2 hrest hcur hrn hlt
   go_wp2_with fail
   refine (HR.out.number hXb Hcons.out hmem.out.1 (by have := Hcl.out; omega)).mono ?_; rintro _ w2 ⟨rfl, x2, r2⟩
   have Hr2 := Lib.hid r2
   clear c0 c1 r2
   go_wp2_with fail
   obtain ⟨w3, E, q1, q2, x3, b3, hs3⟩ := alloc_facts w2 (.cells #[.int .i64 et, .slice none 0 0] 50)
   rw [q1, q2]
   have hEX : E ≠ X := by have := x2.size; omega
   have hEb : Hid (wr.heap.size ≤ E) := Lib.hid (by have := x2.size; omega)
   have Hr3 := Lib.hid (Hr2.out.no x3)
   clear q1 q2 hs3
   go_wp2_with fail
   refine (Hr3.out.number hXb rfl (by have := hmem.out; omega) (by have := Hcl.out; omega)).mono ?_; rintro _ w4 ⟨rfl, x4, r4⟩
   have b4 := x4.blk b3 hEX
   have Hr4 := Lib.hid r4
   have Hx24 := Lib.hid (And.intro x2 (And.intro x3 x4))
   clear x2 x3 x4 b3 r4 hXl
   go_wp2_with fail
   refine (Hr4.out.bytes hXb rfl).mono ?_; rintro _ w5 ⟨da, rfl, rd5, off5, x5, r5⟩
   have b5 := x5.blk b4 hEX
   have e50 : w5.cell? ⟨E, 0, none⟩ = some (.int .i64 et) := by rw [cell_of_blk b5]; rfl
   have e51 : w5.cell? ⟨E, 1, none⟩ = some (.slice none 0 0) := by rw [cell_of_blk b5]; rfl
   have f51 : w5.frozen? ⟨E, 1, none⟩ = false := frozen_of_blk b5 1
   obtain ⟨y2, y3, y4⟩ := Hx24.out
   have y25 : Ext (fun b => b = X) wr w5 := ((y2.trans y3.of_no).trans y4).trans x5
   have hsz := y25.size
   have xS : Ext (fun b => b = E) w5 (w5.setCell ⟨E, 1, none⟩ (.slice da ed.length ed.length)) := (Ext.refl (fun b => b = E) w5).setCell (p := ⟨E, 1, none⟩) (.inl rfl) _
   have bS := blk_setCell b5 1 (.slice da ed.length ed.length)
   replace bS : (w5.setCell ⟨E, 1, none⟩ (.slice da ed.length ed.length)).heap[E]? = some (.cells #[.int .i64 et, .slice da ed.length ed.length] 50 (0, 0)) := bS
   have xrS : Ext (fun b => b = X ∨ b = E) wr (w5.setCell ⟨E, 1, none⟩ (.slice da ed.length ed.length)) := (y25.mono (fun _ _ h => .inl h)).next xS (fun b h _ => .inr h)
   have hbE : b ≠ E := by have := Hb.out; have := HX.out.size; have := Hx1.out.size; have := hEb.out; omega
   have hei : EntRd (w5.setCell ⟨E, 1, none⟩ (.slice da ed.length ed.length)) b [.int .i64 et, .slice da ed.length ed.length] (et, ed) := ⟨da, rfl, Rd.ext rd5 xS (fun g hg h => hbE ((Decidable.not_not.1 (off5 g hg)).symm.trans h)), off5⟩
   have hrS : RdrAt (w5.setCell ⟨E, 1, none⟩ (.slice da ed.length ed.length)) X b rest := by
    obtain ⟨q1, q2, q3, q4, q5, q6, q7, q8, q9⟩ := r5
    exact ⟨q1, q2, q3, q4, xS.blk q5 (fun h => hEX h.symm), Rd.ext q6 xS (fun g hg h => hbE ((Decidable.not_not.1 (q9 g hg)).symm.trans h)), q7, q8, q9⟩
   have hmsS := Hms.out.ext xrS (fun h => h.elim (fun h => hXb h.symm) hbE)
   have hoS := HO.out.ext xrS (fun g hg h => by
    rcases h with h | h
    ·obtain ⟨_, _, _, _, hbX, _⟩ := HR.out
     exact HO.out.ne_blk hbX (by decide) g hg h.symm
    ·have := hRs g hg; have := hEb.out; omega)
   obtain ⟨wS, hwS⟩ : ∃ wS, w5.setCell ⟨E, 1, none⟩ (.slice da ed.length ed.length) = wS := ⟨_, rfl⟩
   rw [hwS] at bS xrS hei hrS hmsS hoS
   have xA : Ext NoB wS (wS.alloc (.cells #[.int .i64 et, .slice da ed.length ed.length] 50)) := (Ext.refl _ wS).alloc _
   have hsrc := Src.row (P := Tryz.prog) unEnts wS.heap.size 2 [.int .i64 et, .slice da ed.length ed.length] 50 (0, 0) (blk_new wS (.cells #[.int .i64 et, .slice da ed.length ed.length] 50)) rfl hei.one.2
   have hoA := hoS.no xA
   have hbd : (ms.flatten.length + [Value.int .i64 et, .slice da ed.length ed.length].length) * 32 ≤ 140737488355328 := by
    rw [Hms.out.len.1]
    simp only [List.length_cons, List.length_nil, List.length_take]
    omega
   have e50S : wS.cell? ⟨E, 0, none⟩ = some (.int .i64 et) := by rw [cell_of_blk bS]; rfl
   have e51S : wS.cell? ⟨E, 1, none⟩ = some (.slice da ed.length ed.length) := by rw [cell_of_blk bS]; rfl
   have Hsrc := Lib.hid hsrc
   have HoA := Lib.hid hoA
   have Hbd := Lib.hid hbd
   have Hei := Lib.hid hei
   have HrS := Lib.hid hrS
   have HmsS := Lib.hid hmsS
   have HxrS := Lib.hid xrS
   have HxA := Lib.hid xA
   have HwS := Lib.hid hwS
   clear hsrc hoA hbd hei hrS hmsS hoS xrS xA xS r5 rd5 off5 x5 y25 y2 y3 y4 b4 bS
   go_wp2_with (at_builtin; refine wpList_app _ rfl (.tmp 36) (.tmp 38) 45 45 rfl 50 2 32 unEnts elEnt HoA.out Hsrc.out rfl rfl Hbd.out (by decide) ?_; intro v' w' o' x' h'; refine halt2 (fun _K HK => ?_))
   have hbm := own_type HoA.out
   have xm : Ext (fun g => (Value.slice va vn vc).ownBlock = some g) wS w' := (HxA.out.of_no).trans x'
   have hvX : ∀ g, (Value.slice va vn vc).ownBlock = some g → g ≠ X ∧ g ≠ b := fun g hg => ⟨fun h => by
    obtain ⟨_, _, _, _, hbX, _⟩ := HR.out
    exact HO.out.ne_blk hbX (by decide) g hg h.symm, fun h => by have := Hfr.out g hg; have := Hb.out; have := Hx1.out.size; omega⟩
   have hrows : EntRds w' b (ms ++ [[.int .i64 et, .slice da ed.length ed.length]]) (es.take (vn + 1)) := by
    rw [take_succ_some He0.out]
    exact .snoc (HmsS.out.ext xm (fun h => (hvX b h).2 rfl)) (Hei.out.ext xm (fun h => (hvX b h).2 rfl))
   have hR' : RdrAt w' X b (entsB (es.drop (vn + 1))) := by
    rw [Hrest.out]
    obtain ⟨q1, q2, q3, q4, q5, q6, q7, q8, q9⟩ := HrS.out
    exact ⟨q1, q2, q3, q4, xm.blk q5 (fun h => (hvX X h).1 rfl), Rd.ext q6 xm (fun g hg h => (hvX g h).2 (Decidable.not_not.1 (q9 g hg))), q7, q8, q9⟩
   have hf' : Fresh w1 v' := Hfr.out.app (by have := HX.out.size; have := HxrS.out.size; have := HxA.out.size; omega) h'
   have hX' : Ext (fun y => y = X) w1 w' := (HX.out.next HxrS.out (fun y h hlt => h.elim id (fun h => by have := hEb.out; have := HX.out.size; omega))).next xm (fun g hg hl => by have := Hfr.out g hg; omega)
   have ho' : Own w' 50 2 v' (ms ++ [[Value.int .i64 et, Value.slice da ed.length ed.length]]).flatten := by rw [List.flatten_append, List.flatten_cons, List.flatten_nil, List.append_nil]; exact o'
   obtain ⟨a', n', c', rfl, hn', _⟩ := ho'.rd
   obtain rfl : n' = vn + 1 := by have h1 := hrows.len.1; rw [List.length_take] at h1; have := Hlt.out; omega
   have Hrows := Lib.hid hrows
   have HR' := Lib.hid hR'
   have Hf' := Lib.hid hf'
   have HX' := Lib.hid hX'
   have Ho' := Lib.hid ho'
   clear hrows hR' hf' hX' ho' o' x' h' xm hvX hbm hn'
   refine HK.out ?_; clear HK _K
   go_wp2_with fail
   refine ⟨⟨vn + 1, _, by have := Hlt.out; omega, HR', Hrows, Ho', Hf', HX'⟩, ?_⟩
   show es.length - (vn + 1) < es.length - vn
   have := Hlt.out; omega
  ·obtain rfl : vn = es.length := by have := HK.out; omega
   have hz : rn = 0 := by rw [hrn, List.drop_length]; rfl
   subst hz
   clear hrn
   have hn0 : ¬ ((0 : Int) < ((0 : Nat) : Int)) := by omega
   go_wp2_with fail
   go_ret2
   refine ⟨_, ms, rfl, ?_, HO.out, Hfr.out.mono Hx1.out.size, (Hx1.out.of_no).next HX.out (fun y h hlt => by have := HXw.out; omega)⟩
   have := Hms.out
   rwa [List.take_length] at this
end Go.Proofs.YtgglbholbkdgfaaGreatDoor
namespace Go.Proofs.YtgglbholbkdgfaaGreatDoor
open Go.RowKit
def toldL : List (Nat × List UInt8) → Nat → List (Nat × List UInt8) → Option (List (Nat × List UInt8))
 | log, _, [] => some log
 | log, k, e :: es => if k < log.length then (if (log[k]?.map (·.1)) = some e.1 then toldL log (k + 1) es else none) else if k = log.length then toldL (log ++ [e]) (k + 1) es else none
theorem toldL_len : ∀ {es log : List (Nat × List UInt8)} {k : Nat} {log2 : List (Nat × List UInt8)}, toldL log k es = some log2 → k ≤ log.length → k + es.length ≤ log2.length ∧ ∃ t, log2 = log ++ t
 | [], log, k, log2, h, hk => by
  simp only [toldL, Option.some.injEq] at h
  subst h
  exact ⟨hk, [], by simp⟩
 | e :: es, log, k, log2, h, hk => by
  rw [toldL] at h
  split at h
  ·split at h
   ·have := toldL_len h (by omega)
    refine ⟨?_, this.2⟩
    simp only [List.length_cons]; omega
   ·cases h
  ·split at h
   ·obtain ⟨h1, t, h2⟩ := toldL_len h (by rw [List.length_append]; simp; omega)
    refine ⟨?_, e :: t, by rw [h2]; simp⟩
    simp only [List.length_cons]; omega
   ·cases h
def PNode.told (N : PNode) (fr draw : Int) (c a : Nat) (log2 : List (Nat × List UInt8)) : PNode := { (N.follows fr draw) with log := log2, committed := max N.committed (min c a) }
set_option maxRecDepth 100000 in
set_option maxHeartbeats 4000000 in
theorem told_ents (r d : Nat) (F : Nat → Prop) (N : PNode) (room : Nat) (saved : Bool) (fr tt draw : Int) (na da : Option Addr) (nc dl dc c3 a b : Nat) (es log2 : List (Nat × List UInt8)) (l : List Int) (w : World) (h : RaftIs w r d F N room saved)
  (hn : Rd w 1 (.slice na l.length nc) (intsV l)) (hoff : Off F (.slice na l.length nc)) (hl : l = [(N.term : Int), (a : Int), (N.termOf a : Int), (c3 : Int)]) (ha : a ≤ N.log.length) (hc3 : c3 ≤ 1099511627776)
  (hbF : ¬ F b) (hbw : b < w.heap.size) (hsent : ∀ w', Ext F w w' → Calls Tryz.prog 84 #[.slice da dl dc] w' (SentEnds b es w')) (hes : ∀ e ∈ es, e.1 ≤ 1099511627776 ∧ e.2.length ≤ 65536) (hes8 : es.length ≤ 8)
  (htold : toldL N.log a es = some log2) (hcap : log2.length ≤ 99) (hroom : (segBytes 1 (log2.map entB)).length + 200 ≤ room) :
  Calls Tryz.prog 49 #[.pointer (some ⟨r, 0, none⟩), msgV fr tt 3 (.slice na l.length nc) (.slice da dl dc), .int .i64 draw] w (Sends r d F w [tookMsg N fr 1 (a + es.length : Nat)] (N.told fr draw c3 (a + es.length) log2) room saved) := by
 obtain ⟨L, tv, hb, hi1, hi2, hcm, hll⟩ := h.cells
 have hlt := h.lt
 have hlen : l.length = 4 := by rw [hl]; rfl
 obtain ⟨nb, noff, rfl, hcell⟩ := nums_cell hn (by omega)
 obtain ⟨tm, htm⟩ : ∃ tm, N.termOf a = tm := ⟨_, rfl⟩
 rw [htm] at hl
 have cn0 : w.cell? ⟨nb, noff, none⟩ = some (.int .i64 N.term) := hcell 0 _ (by rw [hl]; rfl)
 have cn1 : w.cell? ⟨nb, noff + 1, none⟩ = some (.int .i64 a) := hcell 1 _ (by rw [hl]; rfl)
 have cn2 : w.cell? ⟨nb, noff + 2, none⟩ = some (.int .i64 tm) := hcell 2 _ (by rw [hl]; rfl)
 have cn3 : w.cell? ⟨nb, noff + 3, none⟩ = some (.int .i64 c3) := hcell 3 _ (by rw [hl]; rfl)
 have hnbF : ¬ F nb := hoff nb rfl
 rw [hlen] at hn ⊢
 have c5 : w.cell? ⟨r, 5, none⟩ = some (.int .i64 N.term) := by rw [cell_of_blk hb]; rfl
 have hmf : ∀ (fn : Fn) (first cap : Array Value) (w : World), (Instr.makeFunc fn first cap).run Tryz.prog w = .ok (.func fn first cap) w := fun _ _ _ _ => rfl
 have hrl := lt_of_blk hb
 have H := Lib.hid h
 have Hb := Lib.hid hb
 have Hlt := Lib.hid hlt
 have Htm := Lib.hid htm
 have HbF := Lib.hid (And.intro hbF hbw)
 have Hsent := Lib.hid hsent
 have Hes := Lib.hid hes
 have Htold := Lib.hid htold
 have Hcap := Lib.hid (And.intro hcap hroom)
 have Ha := Lib.hid ha
 have hrF : F r := by
  obtain ⟨_, _, ⟨_, _, _, _, _, _, k1, k2, _⟩, _, _⟩ := h.is
  exact k2 r (.inr (.inr k1.self))
 have hnr : nb ≠ r := fun e => hnbF (e ▸ hrF)
 clear h hb hn hcell hl hlt hlen hoff htm hbF hbw hsent hes htold hcap hroom
 unfold msgV
 go_enter Tryz.func49, Tryz.ntmps49
 go_wp2_with fail
 obtain ⟨w1, BN, e1, e2, x1, b1, hs1⟩ := alloc_facts w (.cells #[.pointer (some ⟨r, 0, none⟩)] 27)
 obtain ⟨w2, BM, e3, e4, x2, b2, hs2⟩ := alloc_facts w1 (.cells #[.int .i64 fr, .int .i64 tt, .int .i64 3, .slice (some ⟨nb, noff, none⟩) 4 nc, .slice da dl dc] 37)
 obtain rfl : BM = BN + 1 := by omega
 rw [e1, e2, e3]
 have x02 := x1.trans x2
 have bN := x2.blk b1 (fun h => h)
 have hsz : w.heap.size = BN := e2
 have hBNF : ¬ F BN := fun h => by have := Hlt.out BN h; omega
 have hBMF : ¬ F (BN + 1) := fun h => by have := Hlt.out (BN + 1) h; omega
 have hrBN : BN ≠ r ∧ BN + 1 ≠ r := by omega
 have dN : w2.cell? ⟨BN, 0, none⟩ = some (.pointer (some ⟨r, 0, none⟩)) := by rw [cell_of_blk bN]; rfl
 have dM0 : w2.cell? ⟨BN + 1, 0, none⟩ = some (.int .i64 fr) := by rw [cell_of_blk b2]; rfl
 have dM3 : w2.cell? ⟨BN + 1, 3, none⟩ = some (.slice (some ⟨nb, noff, none⟩) 4 nc) := by rw [cell_of_blk b2]; rfl
 have dM4 : w2.cell? ⟨BN + 1, 4, none⟩ = some (.slice da dl dc) := by rw [cell_of_blk b2]; rfl
 have d5 := x02.cell c5 (fun h => h)
 have dn0 := x02.cell cn0 (fun h => h)
 have dn1 := x02.cell cn1 (fun h => h)
 have dn2 := x02.cell cn2 (fun h => h)
 have dn3 := x02.cell cn3 (fun h => h)
 have Hb2 := Lib.hid (x02.blk Hb.out (fun h => h))
 have Hx02 := Lib.hid x02
 clear e1 e2 e3 e4 x1 x2 b1 b2 hs1 hs2 bN x02 c5 cn0 cn1 cn2 cn3
 go_quiet (fail)
 go_wp2_with fail
 have xq : Ext NoB w2 (w2.drewN nq).drew := ((Ext.refl _ w2).drewN _).drew
 refine wp_region_N (fun w' => w'.cell? ⟨BN, 0, none⟩ = some (.pointer (some ⟨r, 0, none⟩)) ∧ w'.cell? ⟨BN + 1, 0, none⟩ = some (.int .i64 fr)) 10 (by kernel_rfl) ?_
 have hSd : (w2.drewN nq).drew.cell? ⟨BN, 0, none⟩ = some (.pointer (some ⟨r, 0, none⟩)) ∧ (w2.drewN nq).drew.cell? ⟨BN + 1, 0, none⟩ = some (.int .i64 fr) := ⟨xq.cell dN (fun h => h), xq.cell dM0 (fun h => h)⟩
 generalize (w2.drewN nq).drew = wd at hSd xq ⊢
 have bD : wd.heap[r]? = some (.cells (nodeArr N d L tv) 92 (0, 0)) := xq.blk Hb2.out (fun h => h)
 have d7 : wd.cell? ⟨r, 7, none⟩ = some (.int .i64 N.role) := by rw [cell_of_blk bD]; rfl
 have f7 : wd.frozen? ⟨r, 7, none⟩ = false := frozen_of_blk bD 7
 refine wpAnyN_take 0 (v := ?_) (by kernel_rfl) rfl (fun _ _ _ h => h) hSd (by rfl) ?_ ?_; rotate_left; (focus (intro w hSw; (try dsimp only at hSw); go_simp; try with_reducible rfl)); (try simp only [Act.put]); (try simp only [List.setIfInBounds_toArray, List.set_cons_zero, List.set_cons_succ])
 refine wpAnyN_take 1 (v := ?_) (by kernel_rfl) rfl (fun _ _ _ h => h) hSd (by rfl) ?_ ?_; rotate_left; (focus (intro w hSw; (try dsimp only at hSw); go_simp; try with_reducible rfl)); (try simp only [Act.put]); (try simp only [List.setIfInBounds_toArray, List.set_cons_zero, List.set_cons_succ])
 refine wpAnyN_free 2 (v := ?_) (by kernel_rfl) rfl (fun _ _ _ h => h) hSd (by rfl) ?_ ?_; rotate_left; (focus (intro w; go_simp; try with_reducible rfl)); (try simp only [Act.put]); (try simp only [List.setIfInBounds_toArray, List.set_cons_zero, List.set_cons_succ])
 refine wpAnyN_take 3 (v := ?_) (by kernel_rfl) rfl (fun _ _ _ h => h) hSd (by rfl) ?_ ?_; rotate_left; (focus (intro w hSw; (try dsimp only at hSw); go_simp; try with_reducible rfl)); (try simp only [Act.put]); (try simp only [List.setIfInBounds_toArray, List.set_cons_zero, List.set_cons_succ])
 refine wpAnyN_free 4 (v := ?_) (by kernel_rfl) rfl (fun _ _ _ h => h) hSd (by rfl) ?_ ?_; rotate_left; (focus (intro w; go_simp; try with_reducible rfl)); (try simp only [Act.put]); (try simp only [List.setIfInBounds_toArray, List.set_cons_zero, List.set_cons_succ])
 refine wpAnyN_free 5 (v := ?_) (by kernel_rfl) rfl (fun _ _ _ h => h) hSd (by rfl) ?_ ?_; rotate_left; (focus (intro w; go_simp; try with_reducible rfl)); (try simp only [Act.put]); (try simp only [List.setIfInBounds_toArray, List.set_cons_zero, List.set_cons_succ])
 refine wpAnyN_one 6 (by kernel_rfl) (by simp only [List.getElem?_toArray, List.getElem?_cons_succ, List.getElem?_cons_zero] <;> rfl) (by rfl) (fun K hK => ?_)
 go_simp
 have xs1 : Ext (fun b => b = r) wd (wd.setCell ⟨r, 7, none⟩ (.int .i64 0)) := (Ext.refl (fun b => b = r) wd).setCell (p := ⟨r, 7, none⟩) (.inl rfl) _
 have bD1 := blk_setCell bD 7 (.int .i64 0)
 generalize (wd.setCell ⟨r, 7, none⟩ (.int .i64 0)) = we at xs1 bD1 ⊢
 have hS1 := And.intro (xs1.cell hSd.1 hrBN.1) (xs1.cell hSd.2 hrBN.2)
 refine hK.out _ _ hS1 (fun hSd => ?_)
 clear hK K hSd d7 f7
 have hSd := hS1
 have d8 : we.cell? ⟨r, 8, none⟩ = some (.int .i64 N.leader) := by rw [cell_of_blk bD1]; rfl
 have f8 : we.frozen? ⟨r, 8, none⟩ = false := frozen_of_blk bD1 8
 (try simp only [Act.put]); (try simp only [List.setIfInBounds_toArray, List.set_cons_zero, List.set_cons_succ])
 refine wpAnyN_free 7 (v := ?_) (by kernel_rfl) rfl (fun _ _ _ h => h) hSd (by rfl) ?_ ?_; rotate_left; (focus (intro w; go_simp; try with_reducible rfl)); (try simp only [Act.put]); (try simp only [List.setIfInBounds_toArray, List.set_cons_zero, List.set_cons_succ])
 refine wpAnyN_free 8 (v := ?_) (by kernel_rfl) rfl (fun _ _ _ h => h) hSd (by rfl) ?_ ?_; rotate_left; (focus (intro w; go_simp; try with_reducible rfl)); (try simp only [Act.put]); (try simp only [List.setIfInBounds_toArray, List.set_cons_zero, List.set_cons_succ])
 refine wpAnyN_one 9 (by kernel_rfl) (by simp only [List.getElem?_toArray, List.getElem?_cons_succ, List.getElem?_cons_zero] <;> rfl) (by rfl) (fun K hK => ?_)
 go_simp
 have xs2 : Ext (fun b => b = r) we (we.setCell ⟨r, 8, none⟩ (.int .i64 fr)) := (Ext.refl (fun b => b = r) we).setCell (p := ⟨r, 8, none⟩) (.inl rfl) _
 have bD2 := blk_setCell bD1 8 (.int .i64 fr)
 generalize (we.setCell ⟨r, 8, none⟩ (.int .i64 fr)) = wf at xs2 bD2 ⊢
 have hS2 := And.intro (xs2.cell hSd.1 hrBN.1) (xs2.cell hSd.2 hrBN.2)
 refine hK.out _ _ hS2 (fun hSd => ?_)
 clear hK K hSd d8 f8
 (try simp only [Act.put]); (try simp only [List.setIfInBounds_toArray, List.set_cons_zero, List.set_cons_succ])
 refine wpAnyN_tail (by rfl) (by decide) (by kernel_rfl) (by kernel_rfl) ?_
 simp only [List.drop_succ_cons, List.drop_zero, List.drop_nil]
 have xv : Ext (fun b => b = r) w2 wf := (xq.of_no.trans xs1).trans xs2
 obtain ⟨r3, x3F⟩ := RaftIs.set (N' := { N with role := 0, leader := fr }) (H.out.no Hx02.out) xv (fun L' tv' hb' => by
  have e := Hb2.out.symm.trans hb'
  have e2 : nodeArr N d L tv = nodeArr N d L' tv' := by
   injection e with e; injection e
  have eL : L = L' ∧ tv = tv' := by
   have e3 := congrArg Array.toList e2
   simp only [nodeArr, List.cons.injEq, Value.pointer.injEq, Option.some.injEq, Addr.mk.injEq] at e3
   exact ⟨e3.2.2.2.1.1, e3.2.2.2.2.1⟩
  obtain ⟨rfl, rfl⟩ := eL
  exact bD2) rfl ⟨hi1, hi2⟩ hcm rfl rfl
 obtain ⟨D3, ps3, hN3, hrm3, hp3⟩ := r3.is
 have gN := xv.cell dN hrBN.1
 have gM0 := xv.cell dM0 hrBN.2
 have gM3 := xv.cell dM3 hrBN.2
 have gM4 := xv.cell dM4 hrBN.2
 have gn1 := xv.cell dn1 hnr
 have gn2 := xv.cell dn2 hnr
 have gn3 := xv.cell dn3 hnr
 have HN3 := Lib.hid hN3
 have Hr3 := Lib.hid r3
 have Hx3F := Lib.hid x3F
 have Hp3 := Lib.hid (And.intro hrm3 hp3)
 clear r3 x3F xs1 xs2 bD bD1 bD2 hS1 hS2 xv xq dN dM0 dM3 dM4 d5 dn0 dn1 dn2 dn3 hN3 hrm3 hp3 hSd
 go_wp2_with fail
 refine (anew_any r d F _ D3 ps3 draw wf HN3.out).mono ?_; rintro e w4 ⟨rfl, x4, n4⟩
 have kN := x4.cell gN hBNF
 have kM0 := x4.cell gM0 hBMF
 have kM3 := x4.cell gM3 hBMF
 have kM4 := x4.cell gM4 hBMF
 have kn1 := x4.cell gn1 hnbF
 have kn2 := x4.cell gn2 hnbF
 have kn3 := x4.cell gn3 hnbF
 have hterm := termOf_any r d F (N.follows fr draw) D3 ps3 a w4 n4 (by omega)
 have hta : (N.follows fr draw).termOf a = tm := Htm.out
 have hha : (N.follows fr draw).has (a : Int) = true := by unfold PNode.has; exact decide_eq_true ⟨by omega, by show (a : Int) ≤ (N.log.length : Int); omega⟩
 rw [hta, hha] at hterm
 have Hterm := Lib.hid hterm
 have Hn4 := Lib.hid n4
 have Hx4 := Lib.hid x4
 have Hk0 := Lib.hid kM0
 clear x4 n4 hterm hta hha gN gM0 gM3 gM4 gn1 gn2 gn3
 go_wp2_with fail
 refine Hterm.out.mono ?_; rintro e w5 ⟨rfl, rfl⟩
 go_wp2_with fail
 refine (Hsent.out w4 (((Hx02.out.of_no).trans Hx3F.out).trans Hx4.out)).mono ?_; rintro e w5 ⟨v5, ms, rfl, hms, hown, hfr, x5⟩
 have mN := x5.cell kN (fun h => h)
 have mM0 := x5.cell kM0 (fun h => h)
 have mM3 := x5.cell kM3 (fun h => h)
 have mn3 := x5.cell kn3 (fun h => h)
 obtain ⟨va, vn, vc, rfl, hvl, hvn, hvc, _, hvr⟩ := hown.rd
 obtain rfl : vn = es.length := by have := hms.len.1; omega
 have hcell : ∀ (i : Nat) (u : Value), ms.flatten[i]? = some u → ∃ vb off, va = some ⟨vb, off, none⟩ ∧ w5.cell? ⟨vb, off + i, none⟩ = some u := fun i u hu => by
  obtain ⟨vb, off, h1, h2⟩ := hvr (by intro h; rw [h] at hu; cases hu)
  exact ⟨vb, off, h1, h2 i u hu⟩
 have hvF : ∀ g, (Value.slice va es.length vc).ownBlock = some g → ¬ F g := fun g hg h => by have := hfr g hg; have := Hlt.out g h; have := (((Hx02.out.of_no).trans Hx3F.out).trans Hx4.out).size; omega
 have hR5 : RaftIs w5 r d F (N.follows fr draw) room saved := ⟨⟨D3, ps3, Hn4.out.no x5, Hp3.out.1, Hp3.out.2⟩, H.out.fresh, H.out.vote, H.out.term⟩
 have h45 := (((Hx02.out.of_no).trans Hx3F.out).trans Hx4.out).nextNo x5
 have hw5b : b < w5.heap.size := Nat.lt_of_lt_of_le HbF.out.2 h45.size
 have Hcell := Lib.hid hcell
 have HvF := Lib.hid hvF
 have HR5 := Lib.hid hR5
 have Hms := Lib.hid hms
 have H45 := Lib.hid h45
 have hnb5 : BN + 1 < w5.heap.size := by have := World.block_lt_of_cell? _ _ mM0; exact this
 have Hnb5 := Lib.hid (And.intro hnb5 hw5b)
 clear hcell hvF hR5 hms hown hfr x5 kN kM0 kM3 kM4 kn1 kn2 kn3 hvl hvn hvc hvr h45 hw5b hnb5
 go_wp2_with fail
 go_loopw [77] (fun i wr => ∃ (k : Nat) (Fk : Nat → Prop) (lg : List (Nat × List UInt8)), i = .int .i64 (k : Int) ∧ k ≤ es.length ∧ Hid (toldL lg (a + k) (es.drop k) = some log2) ∧ Hid (a + k ≤ lg.length) ∧ Hid (N.log.length ≤ lg.length) ∧ Hid (RaftIs wr r d Fk { (N.follows fr draw) with log := lg } room saved) ∧
  Hid (∀ b, Fk b → F b ∨ w5.heap.size ≤ b) ∧ Hid (Ext F w5 wr)) (fun i _ => es.length - (intOf i).toNat)
 case atStart => exact ⟨0, F, N.log, rfl, by omega, Htold, Ha, Lib.hid (Nat.le_refl _), HR5, Lib.hid (fun b hb => .inl hb), Lib.hid (Ext.refl _ _)⟩
 case round =>
  obtain ⟨k, Fk, lg, rfl, hk, HT, Hal, HNl, HR, HFk, HX⟩ := hrel
  obtain ⟨L', tv', hbr, _, _, hcm', hll'⟩ := HR.out.cells
  have gN := HX.out.cell mN hBNF
  have c9 : wr.cell? ⟨r, 9, none⟩ = some (.int .i64 N.committed) := by rw [cell_of_blk hbr]; rfl
  have Hcm' := Lib.hid (And.intro hcm' hll')
  have HbR := Lib.hid hbr
  clear hbr hcm' hll'
  by_cases hlt : k < es.length
  ·obtain ⟨⟨et, ed⟩, he0⟩ : ∃ e, es[k]? = some e := ⟨_, List.getElem?_eq_getElem hlt⟩
   obtain ⟨het, hed⟩ : et ≤ 1099511627776 ∧ ed.length ≤ 65536 := Hes.out _ (List.mem_of_getElem? he0)
   obtain ⟨xa, hc0, hc1, hrd, hoff⟩ := Hms.out.get k (et, ed) he0
   obtain ⟨vb, off, hva, hck0⟩ := Hcell.out _ _ hc0
   subst hva
   obtain ⟨vb', off', hva', hck1⟩ := Hcell.out _ _ hc1
   cases hva'
   have hvbF := HvF.out vb rfl
   have g0 := HX.out.cell hck0 hvbF
   have g1 := HX.out.cell hck1 hvbF
   rw [← Nat.add_assoc] at g1
   have hk0 : (0 : Int) ≤ (k : Int) := by omega
   have hk1 : (k : Int) < (es.length : Int) := by omega
   have hkn : ((k : Int)).toNat = k := by omega
   have hw1 : IntKind.i64.wrap ((a : Int) + 1) = (a : Int) + 1 := IntWalk.i64_in _ (by omega)
   obtain ⟨q, hq⟩ : ∃ q, a + k + 1 = q := ⟨_, rfl⟩
   have hw2 : IntKind.i64.wrap ((a : Int) + 1 + (k : Int)) = (q : Int) := by rw [IntWalk.i64_in _ (by omega)]; omega
   have hBNl : BN < wr.heap.size := by have := Hnb5.out; have := HX.out.size; omega
   have hw3 : IntKind.i64.wrap ((k : Int) + 1) = (k : Int) + 1 := IntWalk.i64_in _ (by omega)
   have hTe := HT.out
   rw [drop_some he0, toldL] at hTe
   have Het := Lib.hid (And.intro het hed)
   have Hrd := Lib.hid hrd
   have Hoff := Lib.hid hoff
   have HTe := Lib.hid hTe
   have Hlt' := Lib.hid hlt
   clear hTe he0 het hed hc0 hc1 hrd hoff hck0 hck1 hlt
   go_wp2_with fail
   obtain ⟨wa, E, e1, e2, xa', ba, hsa⟩ := alloc_facts wr (.cells #[.int .i64 et, .slice xa ed.length ed.length] 50)
   rw [e1, e2]
   have gNa := xa'.cell gN (fun h => h)
   have c9a := xa'.cell c9 (fun h => h)
   have eE0 : wa.cell? ⟨E, 0, none⟩ = some (.int .i64 et) := by rw [cell_of_blk ba]; rfl
   have eE1 : wa.cell? ⟨E, 1, none⟩ = some (.slice xa ed.length ed.length) := by rw [cell_of_blk ba]; rfl
   obtain ⟨Dk, psk, hNk, hrmk, hpk⟩ := HR.out.is
   have hNa := hNk.no xa'
   have hterm := termOf_any r d Fk { (N.follows fr draw) with log := lg } Dk psk q wa hNa (by omega)
   have hlast := rlast_any r d Fk { (N.follows fr draw) with log := lg } Dk psk wa hNa
   have Hlast := Lib.hid hlast
   have Hxa := Lib.hid xa'
   have HbE := Lib.hid (And.intro ba (show E = wr.heap.size by omega))
   have Hq := Lib.hid hq
   have HBNl := Lib.hid hBNl
   clear hNk hrmk hpk hNa hlast xa' ba e1 e2 hsa gN c9 g0 g1 hq hBNl
   by_cases hhas : a + k < lg.length
   ·have hTe := HTe.out
    rw [if_pos hhas] at hTe
    have hsame : lg[a + k]?.map (·.1) = some et := by
     by_cases h : lg[a + k]?.map (·.1) = some et
     ·exact h
     ·rw [if_neg h] at hTe; cases hTe
    rw [if_pos hsame] at hTe
    have e1 : PNode.termOf { (N.follows fr draw) with log := lg } q = et := by
     unfold PNode.termOf PNode.terms
     rw [if_neg (by have := Hq.out; omega), show q - 1 = a + k by have := Hq.out; omega, List.getElem?_map, hsame]
     rfl
    have e2 : PNode.has { (N.follows fr draw) with log := lg } (q : Int) = true := by
     unfold PNode.has
     exact decide_eq_true ⟨by omega, by show (q : Int) ≤ (lg.length : Int); have := Hq.out; omega⟩
    rw [e1, e2] at hterm
    have Hterm' := Lib.hid hterm
    have HTe2 := Lib.hid hTe
    have Hhas := Lib.hid hhas
    clear hterm e1 e2 hsame hTe hhas
    refine Hterm'.out.mono ?_; rintro _ wb ⟨rfl, rfl⟩
    go_wp2_with fail
    have hxa := Hxa.out
    refine ⟨⟨k + 1, Fk, lg, rfl, by have := Hlt'.out; omega, Lib.hid (by rw [← Nat.add_assoc]; exact HTe2.out), Lib.hid ?_, HNl, Lib.hid (HR.out.no hxa), HFk, Lib.hid (HX.out.nextNo hxa)⟩, ?_⟩
    ·have := Hhas.out; omega
    ·show es.length - ((k : Int) + 1).toNat < es.length - ((k : Int)).toNat
     have := Hlt'.out; omega
   ·have hTe := HTe.out
    have hal : a + k = lg.length := by have := Hal.out; omega
    rw [if_neg hhas, if_pos hal] at hTe
    have e2 : PNode.has { (N.follows fr draw) with log := lg } (q : Int) = false := by
     unfold PNode.has
     exact decide_eq_false (fun h => by have h2 : (q : Int) ≤ (lg.length : Int) := h.2; have := Hq.out; omega)
    obtain ⟨T, hT⟩ : ∃ T, PNode.termOf { (N.follows fr draw) with log := lg } q = T := ⟨_, rfl⟩
    rw [e2, hT] at hterm
    have hq9 : ¬ ((q : Int) ≤ (N.committed : Int)) := by have h1 : N.committed ≤ lg.length := Hcm'.out.1; have := Hq.out; omega
    have hql : ¬ ((q : Int) ≤ (lg.length : Int)) := by have := Hq.out; omega
    obtain ⟨hl2, tt2, htt2⟩ := toldL_len hTe (by rw [List.length_append]; simp only [List.length_singleton]; omega)
    have hlen2 : lg.length + 1 ≤ log2.length := by rw [htt2]; simp only [List.length_append, List.length_singleton]; omega
    have hby : (segBytes 1 (lg.map entB)).length + ed.length ≤ (segBytes 1 (log2.map entB)).length := by
     rw [htt2, List.map_append, List.map_append, segBytes_append, segBytes_append]
     simp only [List.map_cons, List.map_nil, segBytes, List.append_nil, List.length_append, enc_length]
     have : (entB (et, ed)).length = (uv et).length + ed.length := by show (uv et ++ ed).length = _; rw [List.length_append]
     omega
    have hrdA : RdB wa (.slice xa ed.length ed.length) ed := (Rd.ext Hrd.out HX.out (fun g hg h => HbF.out.1 ((Decidable.not_not.1 (Hoff.out g hg)) ▸ h))).no Hxa.out
    have hoffA : Off Fk (.slice xa ed.length ed.length) := fun g hg h => by
     have hgb := Decidable.not_not.1 (Hoff.out g hg)
     subst hgb
     rcases HFk.out g h with h | h
     ·exact HbF.out.1 h
     ·have := Hnb5.out.2; omega
    have hlay := lay_any r d Fk { (N.follows fr draw) with log := lg } room saved et _ ed wa (HR.out.no Hxa.out) (by show lg.length < 99; have := Hcap.out.1; omega) hrdA hoffA Het.out.2 Het.out.1 (by show (segBytes 1 (lg.map entB)).length + ed.length + 200 ≤ room; have := Hcap.out.2; omega)
    have Hlay := Lib.hid hlay
    have Hterm' := Lib.hid hterm
    have HTe2 := Lib.hid hTe
    have Hhal := Lib.hid hal
    clear hterm e2 hT hTe hhas hal hl2 htt2 hlen2 hby hrdA hoffA hlay
    refine Hterm'.out.mono ?_; rintro _ wb ⟨rfl, rfl⟩
    go_wp2_with fail
    refine Hlast.out.mono ?_; rintro _ wb ⟨rfl, rfl⟩
    go_wp2_with fail
    refine Hlay.out.mono ?_; rintro _ wb ⟨rfl, xb, rb⟩
    have Hxb := Lib.hid xb
    have Hrb := Lib.hid rb
    clear xb rb
    go_wp2_with fail
    have s1 := HX.out.size
    have s2 := Hxa.out.size
    refine ⟨⟨k + 1, _, lg ++ [(et, ed)], rfl, by have := Hlt'.out; omega, Lib.hid (by rw [← Nat.add_assoc]; exact HTe2.out), Lib.hid (by rw [List.length_append]; have := Hhal.out; simp only [List.length_singleton]; omega), Lib.hid (by rw [List.length_append]; have := HNl.out; omega), Hrb, Lib.hid ?_, Lib.hid ?_⟩, ?_⟩
    ·intro b hb
     rcases hb with hb | hb
     ·exact HFk.out b hb
     ·exact .inr (by omega)
    ·exact (HX.out.nextNo Hxa.out).next Hxb.out (fun b hb hl => (HFk.out b hb).elim id (fun h => by omega))
    ·show es.length - ((k : Int) + 1).toNat < es.length - ((k : Int)).toNat
     have := Hlt'.out; omega
  ·obtain rfl : k = es.length := by omega
   have hTe := HT.out
   rw [List.drop_length, toldL, Option.some.injEq] at hTe
   subst hTe
   have hnk : ¬ ((es.length : Int) < (es.length : Int)) := by omega
   have gM3 := HX.out.cell mM3 hBMF
   have gn3 := HX.out.cell mn3 hnbF
   have gM0 := HX.out.cell mM0 hBMF
   have hBNl : BN < wr.heap.size := by have := Hnb5.out; have := HX.out.size; omega
   have hwA : IntKind.i64.wrap ((a : Int) + (es.length : Int)) = ((a + es.length : Nat) : Int) := by rw [IntWalk.i64_in _ (by omega)]; omega
   obtain ⟨q, hq⟩ : ∃ q, a + es.length = q := ⟨_, rfl⟩
   rw [hq] at hwA ⊢
   have Hq := Lib.hid hq
   clear hq hlt hk
   go_wp2_with fail
   have xrd : Ext NoB wr wr.drew := (Ext.refl _ wr).drew
   refine wp_region_N (fun w' => w'.cell? ⟨BN, 0, none⟩ = some (.pointer (some ⟨r, 0, none⟩)) ∧ w'.cell? ⟨r, 9, none⟩ = some (.int .i64 N.committed) ∧ w'.cell? ⟨BN + 1, 3, none⟩ = some (.slice (some ⟨nb, noff, none⟩) 4 nc) ∧ w'.cell? ⟨nb, noff + 3, none⟩ = some (.int .i64 c3)) 17 (by kernel_rfl) ?_
   have hSd : wr.drew.cell? ⟨BN, 0, none⟩ = some (.pointer (some ⟨r, 0, none⟩)) ∧ wr.drew.cell? ⟨r, 9, none⟩ = some (.int .i64 N.committed) ∧ wr.drew.cell? ⟨BN + 1, 3, none⟩ = some (.slice (some ⟨nb, noff, none⟩) 4 nc) ∧ wr.drew.cell? ⟨nb, noff + 3, none⟩ = some (.int .i64 c3) := ⟨gN, c9, gM3, gn3⟩
   generalize wr.drew = wg at hSd xrd ⊢
   refine wpAnyN_take 0 (v := ?_) (by kernel_rfl) rfl (fun _ _ _ h => h) hSd (by rfl) ?_ ?_; rotate_left; (focus (intro w hSw; (try dsimp only at hSw); go_simp; try with_reducible rfl)); (try simp only [Act.put]); (try simp only [List.setIfInBounds_toArray, List.set_cons_zero, List.set_cons_succ])
   refine wpAnyN_take 1 (v := ?_) (by kernel_rfl) rfl (fun _ _ _ h => h) hSd (by rfl) ?_ ?_; rotate_left; (focus (intro w hSw; (try dsimp only at hSw); go_simp; try with_reducible rfl)); (try simp only [Act.put]); (try simp only [List.setIfInBounds_toArray, List.set_cons_zero, List.set_cons_succ])
   refine wpAnyN_free 2 (v := ?_) (by kernel_rfl) rfl (fun _ _ _ h => h) hSd (by rfl) ?_ ?_; rotate_left; (focus (intro w; go_simp; try with_reducible rfl)); (try simp only [Act.put]); (try simp only [List.setIfInBounds_toArray, List.set_cons_zero, List.set_cons_succ])
   refine wpAnyN_free 3 (v := ?_) (by kernel_rfl) rfl (fun _ _ _ h => h) hSd (by rfl) ?_ ?_; rotate_left; (focus (intro w; go_simp; try with_reducible rfl)); (try simp only [Act.put]); (try simp only [List.setIfInBounds_toArray, List.set_cons_zero, List.set_cons_succ])
   refine wpAnyN_take 4 (v := ?_) (by kernel_rfl) rfl (fun _ _ _ h => h) hSd (by rfl) ?_ ?_; rotate_left; (focus (intro w hSw; (try dsimp only at hSw); go_simp; try with_reducible rfl)); (try simp only [Act.put]); (try simp only [List.setIfInBounds_toArray, List.set_cons_zero, List.set_cons_succ])
   refine wpAnyN_free 5 (v := ?_) (by kernel_rfl) rfl (fun _ _ _ h => h) hSd (by rfl) ?_ ?_; rotate_left; (focus (intro w; go_simp; try with_reducible rfl)); (try simp only [Act.put]); (try simp only [List.setIfInBounds_toArray, List.set_cons_zero, List.set_cons_succ])
   refine wpAnyN_take 6 (v := ?_) (by kernel_rfl) rfl (fun _ _ _ h => h) hSd (by rfl) ?_ ?_; rotate_left; (focus (intro w hSw; (try dsimp only at hSw); go_simp; try with_reducible rfl)); (try simp only [Act.put]); (try simp only [List.setIfInBounds_toArray, List.set_cons_zero, List.set_cons_succ])
   refine wpAnyN_free 7 (v := ?_) (by kernel_rfl) rfl (fun _ _ _ h => h) hSd (by rfl) ?_ ?_; rotate_left; (focus (intro w; go_simp; try with_reducible rfl)); (try simp only [Act.put]); (try simp only [List.setIfInBounds_toArray, List.set_cons_zero, List.set_cons_succ])
   refine wpAnyN_take 8 (v := ?_) (by kernel_rfl) rfl (fun _ _ _ h => h) hSd (by rfl) ?_ ?_; rotate_left; (focus (intro w hSw; (try dsimp only at hSw); go_simp; try with_reducible rfl)); (try simp only [Act.put]); (try simp only [List.setIfInBounds_toArray, List.set_cons_zero, List.set_cons_succ])
   refine wpAnyN_free 9 (v := ?_) (by kernel_rfl) rfl (fun _ _ _ h => h) hSd (by rfl) ?_ ?_; rotate_left; (focus (intro w; go_simp; try with_reducible rfl)); (try simp only [Act.put]); (try simp only [List.setIfInBounds_toArray, List.set_cons_zero, List.set_cons_succ])
   refine wpAnyN_free 10 (v := ?_) (by kernel_rfl) rfl (fun _ _ _ h => h) hSd (by rfl) ?_ ?_; rotate_left; (focus (intro w; go_simp; try with_reducible rfl)); (try simp only [Act.put]); (try simp only [List.setIfInBounds_toArray, List.set_cons_zero, List.set_cons_succ])
   refine wpAnyN_free 11 (v := ?_) (by kernel_rfl) rfl (fun _ _ _ h => h) hSd (by rfl) ?_ ?_; rotate_left; (focus (intro w; go_simp; try with_reducible rfl)); (try simp only [Act.put]); (try simp only [List.setIfInBounds_toArray, List.set_cons_zero, List.set_cons_succ])
   refine wpAnyN_free 12 (v := ?_) (by kernel_rfl) rfl (fun _ _ _ h => h) hSd (by rfl) ?_ ?_; rotate_left; (focus (intro w; go_simp; try with_reducible rfl)); (try simp only [Act.put]); (try simp only [List.setIfInBounds_toArray, List.set_cons_zero, List.set_cons_succ])
   refine wpAnyN_free 13 (v := ?_) (by kernel_rfl) rfl (fun _ _ _ h => h) hSd (by rfl) ?_ ?_; rotate_left; (focus (intro w; go_simp; try with_reducible rfl)); (try simp only [Act.put]); (try simp only [List.setIfInBounds_toArray, List.set_cons_zero, List.set_cons_succ])
   refine wpAnyN_free 14 (v := ?_) (by kernel_rfl) rfl (fun _ _ _ h => h) hSd (by rfl) ?_ ?_; rotate_left; (focus (intro w; go_simp; try with_reducible rfl)); (try simp only [Act.put]); (try simp only [List.setIfInBounds_toArray, List.set_cons_zero, List.set_cons_succ])
   refine wpAnyN_free 15 (v := ?_) (by kernel_rfl) rfl (fun _ _ _ h => h) hSd (by rfl) ?_ ?_; rotate_left; (focus (intro w; go_simp; try with_reducible rfl)); (try simp only [Act.put]); (try simp only [List.setIfInBounds_toArray, List.set_cons_zero, List.set_cons_succ])
   refine wpAnyN_free 16 (v := ?_) (by kernel_rfl) rfl (fun _ _ _ h => h) hSd (by rfl) ?_ ?_; rotate_left; (focus (intro w; go_simp; try with_reducible rfl)); (try simp only [Act.put]); (try simp only [List.setIfInBounds_toArray, List.set_cons_zero, List.set_cons_succ])
   refine wpAnyN_tail (by rfl) (by decide) (by kernel_rfl) (by kernel_rfl) ?_
   simp only [List.drop_succ_cons, List.drop_zero, List.drop_nil]
   obtain ⟨g0, g9, g3, gn⟩ := hSd
   have bG := xrd.blk HbR.out (fun h => h)
   have f9 : wg.frozen? ⟨r, 9, none⟩ = false := frozen_of_blk bG 9
   have HbG := Lib.hid bG
   have Hxrd := Lib.hid xrd
   clear bG xrd
   go_wp2_with fail
   have hcv : max (N.committed : Int) (min (c3 : Int) (q : Int)) = ((max N.committed (min c3 q) : Nat) : Int) := by omega
   rw [hcv]
   have xs : Ext (fun b => b = r) wg (wg.setCell ⟨r, 9, none⟩ (.int .i64 (max N.committed (min c3 q) : Nat))) := (Ext.refl (fun b => b = r) wg).setCell (p := ⟨r, 9, none⟩) (.inl rfl) _
   have bh := blk_setCell HbG.out 9 (.int .i64 (max N.committed (min c3 q) : Nat))
   have hset := RaftIs.set (N' := N.told fr draw c3 q lg) (HR.out.no Hxrd.out) xs (fun L tv hb => by
    have := blk_setCell hb 9 (.int .i64 (max N.committed (min c3 q) : Nat))
    exact this) rfl ⟨hi1, hi2⟩ (by show max N.committed (min c3 q) ≤ lg.length; have h1 : N.committed ≤ lg.length := Hcm'.out.1; have := Hal.out; have := Hq.out; omega) rfl rfl
   generalize (wg.setCell ⟨r, 9, none⟩ (.int .i64 (max N.committed (min c3 q) : Nat))) = wh at xs bh hset ⊢
   replace bh : wh.heap[r]? = some (.cells (nodeArr (N.told fr draw c3 q lg) d L' tv') 92 (0, 0)) := bh
   have uN := xs.cell g0 hrBN.1
   have uM := xs.cell (Hxrd.out.cell gM0 (fun h => h)) hrBN.2
   have hans := answer_any r BN (BN + 1) L' d tv' (N.told fr draw c3 q lg) fr 1 q wh bh uN uM
   have Hans := Lib.hid hans
   have Hset := Lib.hid hset
   clear hans hset xs bh uN uM hcv
   go_wp2_with fail
   refine Hans.out.mono ?_; rintro e w6 ⟨v, rfl, hm, hf, x6⟩
   obtain ⟨ms6, hms6, hown6⟩ := hm
   obtain ⟨va6, vn6, vc6, rfl, _⟩ := hown6.rd
   have Hm6 := Lib.hid hms6
   have Ho6 := Lib.hid hown6
   have Hf6 := Lib.hid hf
   have Hx6 := Lib.hid x6
   clear hms6 hown6 hf x6
   go_wp2_with fail
   go_ret
   obtain ⟨hR', hX'⟩ := Hset.out
   have s1 := H45.out.size
   have s2 := HX.out.size
   have s3 := Hxrd.out.size
   have s4 := hX'.size
   have s5 := Hx6.out.size
   have xk : Ext Fk wr w6 := ((Hxrd.out.of_no).trans hX').nextNo Hx6.out
   have xF : Ext F w w6 := (H45.out.trans HX.out).next xk (fun b hb hl => (HFk.out b hb).elim id (fun h => by omega))
   rw [Hq.out]
   refine ⟨_, rfl, ⟨ms6, Hm6.out, Ho6.out⟩, fun g hg => by have := Hf6.out g hg; omega, xF, ?_⟩
   refine (hR'.no Hx6.out).wide (fun b hb => ?_) (fun b hb => ?_)
   ·rcases HFk.out b hb with h | h
    ·exact .inl h
    ·exact .inr ⟨by omega, by have := hR'.lt b hb; omega⟩
   ·rcases hb with h | h
    ·have := Hlt.out b h; omega
    ·exact h.2
end Go.Proofs.YtgglbholbkdgfaaGreatDoor
namespace Go.Proofs.YtgglbholbkdgfaaGreatDoor
open Go.RowKit
def segBy (n : Nat) : List UInt8 := [48, 48, 48, 48, 48, 48, UInt8.ofNat (48 + n / 10), UInt8.ofNat (48 + n % 10)]
theorem segName_bytes : ∀ n, n < 100 → (segName logPre n).data.toList = [108, 111, 103, 46] ++ segBy n := by decide +kernel
def bytesLe (a b : List UInt8) : Bool := decide (a ≤ b)
theorem segBy_le : ∀ a, a < 100 → ∀ b, b < 100 → a < b → bytesLe ([108, 111, 103, 46] ++ segBy a) ([108, 111, 103, 46] ++ segBy b) = true := by decide +kernel
theorem segBy_term : ∀ a, a < 100 → bytesLe ([108, 111, 103, 46] ++ segBy a) [116, 101, 114, 109] = true := by decide +kernel
def canonNames (tf : Option (Nat × Int)) (ps : List PSeg) : List (List UInt8) := ps.map (fun p => [108, 111, 103, 46] ++ segBy p.first) ++ (if tf.isSome then [[116, 101, 114, 109]] else [])
theorem segs_sorted : ∀ {n : Nat} {ps : List PSeg} {m : Nat}, Chain n ps m → m ≤ 100 → (ps.map (fun p => [108, 111, 103, 46] ++ segBy p.first)).Pairwise (fun a b => bytesLe a b = true)
 | _, [], _, _, _ => List.Pairwise.nil
 | n, p :: ps, m, h, hm => by
  have hp := h.first_lt (p := p) (by simp)
  obtain ⟨h1, h2, h3⟩ := h
  rw [List.map_cons, List.pairwise_cons]
  refine ⟨fun s hs => ?_, segs_sorted h3 hm⟩
  obtain ⟨q, hq, rfl⟩ := List.mem_map.1 hs
  have hql := h3.first_lt hq
  have := List.length_pos_iff.2 h2
  exact segBy_le p.first (by omega) q.first (by omega) (by omega)
theorem names_canon {fs : Files} {tf : Option (Nat × Int)} {ps : List PSeg} {n m : Nat} (hp : fs.Perm (canon tf ps)) (hc : Chain n ps m) (hm : m ≤ 100) : names fs = canonNames tf ps := by
 have hs : (canonNames tf ps).Pairwise (fun a b => bytesLe a b = true) := by
  unfold canonNames
  rw [List.pairwise_append]
  refine ⟨segs_sorted hc hm, by split <;> simp, fun a ha b hb => ?_⟩
  obtain ⟨p, hp, rfl⟩ := List.mem_map.1 ha
  have := hc.first_lt hp
  split at hb
  ·obtain rfl : b = _ := by simpa using hb
   exact segBy_term p.first (by omega)
  ·cases hb
 have hperm : (fs.map (fun p => p.1.data.toList)).Perm (canonNames tf ps) := by
  refine (hp.map _).trans ?_
  unfold canon canonNames
  rw [List.map_append]
  refine List.perm_append_comm.trans ?_
  refine List.Perm.append ?_ ?_
  ·unfold logFs
   rw [List.map_map]
   refine List.Perm.of_eq (List.map_congr_left fun p hp => ?_)
   have := hc.first_lt hp
   exact segName_bytes p.first (by omega)
  ·cases tf <;> exact List.Perm.refl _
 unfold names
 refine List.Perm.eq_of_pairwise (le := fun a b => bytesLe a b = true) (fun a b _ _ h1 h2 => ?_) ?_ hs ((List.mergeSort_perm _ _).trans hperm)
 ·exact List.le_antisymm (of_decide_eq_true h1) (of_decide_eq_true h2)
 ·refine List.pairwise_mergeSort (fun a b c h1 h2 => ?_) (fun a b => ?_) _
  ·exact decide_eq_true (List.le_trans (of_decide_eq_true h1) (of_decide_eq_true h2))
  ·rcases List.le_total a b with h | h
   ·rw [Bool.or_eq_true]; exact .inl (decide_eq_true h)
   ·rw [Bool.or_eq_true]; exact .inr (decide_eq_true h)
def digVal : List UInt8 → Nat → Nat
 | [], n => n
 | c :: cs, n => digVal cs (n * 10 + (c.toNat - 48))
def isDigs (l : List UInt8) : Bool := l.all (fun c => decide (48 ≤ c.toNat ∧ c.toNat ≤ 57))
theorem segBy_val : ∀ n, n < 100 → digVal (segBy n) 0 = n ∧ isDigs (segBy n) = true := by decide +kernel
theorem digVal_take {l : List UInt8} {i : Nat} {c : UInt8} (h : l[i]? = some c) : ∀ n, digVal (l.take (i + 1)) n = digVal (l.take i) n * 10 + (c.toNat - 48) := by
 induction l generalizing i with
 | nil => cases h
 | cons x l ih =>
  intro n
  cases i with
  | zero =>
   obtain rfl : x = c := by simpa using h
   simp [digVal]
  | succ i => simpa [digVal] using ih (i := i) (by simpa using h) _
theorem digVal_lt : ∀ (l : List UInt8) (n : Nat), isDigs l = true → digVal l n < (n + 1) * 10 ^ l.length
 | [], n, _ => by simp [digVal]
 | c :: cs, n, h => by
  simp only [isDigs, List.all_cons, Bool.and_eq_true, decide_eq_true_eq] at h
  have := digVal_lt cs (n * 10 + (c.toNat - 48)) h.2
  rw [digVal, List.length_cons, Nat.pow_succ]
  refine Nat.lt_of_lt_of_le this ?_
  have h2 : n * 10 + (c.toNat - 48) + 1 ≤ (n + 1) * 10 := by omega
  calc (n * 10 + (c.toNat - 48) + 1) * 10 ^ cs.length ≤ ((n + 1) * 10) * 10 ^ cs.length := Nat.mul_le_mul_right _ h2
   _ = (n + 1) * (10 ^ cs.length * 10) := by rw [Nat.mul_assoc, Nat.mul_comm 10]
set_option maxRecDepth 100000 in
set_option maxHeartbeats 4000000 in
theorem number_seg (L n : Nat) (w : World) (hn : n < 100) (h : w.cell? ⟨L, 1, none⟩ = some (.string logPre)) :
  Calls Tryz.prog 72 #[.pointer (some ⟨L, 0, none⟩), .string (segName logPre n)] w fun e w' => e = .returned (.tuple #[.int .i64 n, .bool true]) ∧ Ext NoB w w' := by
 have hcut := fun (p : ByteArray) (w : World) => Tryz.strings_CutPrefix (segName logPre n) p w
 have hby := segName_bytes n hn
 obtain ⟨hval, hdig⟩ := segBy_val n hn
 have Hcut := Lib.hid hcut
 have Hby := Lib.hid hby
 obtain ⟨ds, hds⟩ : ∃ ds, segBy n = ds := ⟨_, rfl⟩
 have hdl : ds.length = 8 := by rw [← hds]; rfl
 have Hds := Lib.hid hds
 rw [hds] at hval hdig
 have Hval := Lib.hid hval
 have Hdig := Lib.hid hdig
 clear hcut hby hds hval hdig
 go_enter Tryz.func72, Tryz.ntmps72
 go_wp2_with fail
 have hc := Hcut.out (logPre ++ { data := #[46] }) w
 have htrue : Lib.hasPrefix (segName logPre n).data.toList (logPre ++ { data := #[46] }).data.toList = true ∧ Lib.trimPrefix (segName logPre n).data.toList (logPre ++ { data := #[46] }).data.toList = ds := by
  rw [ByteArray.data_append, Hby.out, Hds.out]
  constructor
  ·show Lib.hasPrefix ([108, 111, 103, 46] ++ ds) [108, 111, 103, 46] = true
   simp [Lib.hasPrefix]
  ·show Lib.trimPrefix ([108, 111, 103, 46] ++ ds) [108, 111, 103, 46] = ds
   simp [Lib.trimPrefix, Lib.hasPrefix]
 rw [htrue.1, htrue.2] at hc
 have Hc := Lib.hid hc
 clear hc htrue Hcut
 refine Hc.out.mono ?_; rintro e w1 ⟨rfl, rfl⟩
 have hsz : (ByteArray.mk ds.toArray).size = 8 := by show ds.toArray.size = 8; rw [List.size_toArray, hdl]
 have hconv := fun (w : World) => run_bytes_of_string (P := Tryz.prog) w 9 35 5 (ByteArray.mk ds.toArray) unString unBytes (by kernel_rfl)
 rw [hsz] at hconv
 go_wp2_with fail
 have hcell : ∀ (i : Nat) (c : UInt8), ds[i]? = some c → (w1.alloc (.cells (bytesRow { data := ds.toArray } (grownCap w1 8 0 5)) 5 ((bytesRow { data := ds.toArray } (grownCap w1 8 0 5)).size, (bytesRow { data := ds.toArray } (grownCap w1 8 0 5)).size + 1))).drew.cell? ⟨w1.heap.size, i, none⟩ = some (.int .u8 (c.toNat : Int)) := fun i c hc => by
  have hi := (List.getElem?_eq_some_iff.1 hc)
  obtain ⟨hi1, hi2⟩ := hi
  show (w1.alloc _).cell? ⟨w1.heap.size, i, none⟩ = _
  rw [World.cell?_alloc_mark, bytesRow_at _ _ i (by simpa using hi1)]
  congr 2
  rw [← hi2]
  simp
 have hx : Ext NoB w1 (w1.alloc (.cells (bytesRow { data := ds.toArray } (grownCap w1 8 0 5)) 5 ((bytesRow { data := ds.toArray } (grownCap w1 8 0 5)).size, (bytesRow { data := ds.toArray } (grownCap w1 8 0 5)).size + 1))).drew := ((Ext.refl _ w1).alloc _).drew
 generalize (w1.alloc (.cells (bytesRow { data := ds.toArray } (grownCap w1 8 0 5)) 5 ((bytesRow { data := ds.toArray } (grownCap w1 8 0 5)).size, (bytesRow { data := ds.toArray } (grownCap w1 8 0 5)).size + 1))).drew = wq at hcell hx ⊢
 generalize w1.heap.size = V at hcell ⊢
 generalize grownCap w1 8 0 5 = gc
 have Hcell := Lib.hid hcell
 clear hcell hconv hsz
 go_loopw [8, 31] (fun v i wr => ∃ k : Nat, i = .int .i64 (k : Int) ∧ k ≤ 8 ∧ v = .int .i64 ((digVal (ds.take k) 0 : Nat) : Int) ∧ wr = wq) (fun _ i _ => 8 - (intOf i).toNat)
 case atStart => exact ⟨0, rfl, by omega, rfl, rfl⟩
 case round =>
  obtain ⟨k, rfl, hk, rfl, rfl⟩ := hrel
  have hbnd := digVal_lt (ds.take k) 0 (by
   have := Hdig.out
   unfold isDigs at this ⊢
   rw [List.all_eq_true] at this ⊢
   exact fun c hc => this c (List.mem_of_mem_take hc))
  have hbnd2 : digVal (ds.take k) 0 < 100000000 := by
   refine Nat.lt_of_lt_of_le hbnd ?_
   rw [Nat.zero_add, Nat.one_mul, List.length_take]
   have : min k ds.length ≤ 8 := by omega
   exact Nat.pow_le_pow_right (by decide) this
  obtain ⟨N, hN⟩ : ∃ N, digVal (ds.take k) 0 = N := ⟨_, rfl⟩
  rw [hN] at hbnd2 ⊢
  clear hbnd
  by_cases hlt : k < 8
  ·obtain ⟨c, hc⟩ : ∃ c, ds[k]? = some c := ⟨_, List.getElem?_eq_getElem (by omega)⟩
   have hcd : 48 ≤ c.toNat ∧ c.toNat ≤ 57 := by
    have := Hdig.out
    unfold isDigs at this
    rw [List.all_eq_true] at this
    exact of_decide_eq_true (this c (List.mem_of_getElem? hc))
   have hck := Hcell.out k c hc
   have hnext := digVal_take hc 0
   rw [hN] at hnext
   obtain ⟨x, hx⟩ : ∃ x, c.toNat = x := ⟨_, rfl⟩
   rw [hx] at hcd hck hnext
   have hl1 : ¬ ((x : Int) < 48) := by omega
   have hl2 : ¬ ((57 : Int) < (x : Int)) := by omega
   have hw1 : IntKind.i64.wrap ((N : Int) * 10) = (N : Int) * 10 := IntWalk.i64_in _ (by omega)
   have hw2 : IntKind.u8.wrap ((x : Int) - 48) = (x : Int) - 48 := by rw [IntKind.wrap_u8]; omega
   have hw3 : IntKind.i64.wrap ((x : Int) - 48) = (x : Int) - 48 := IntWalk.i64_in _ (by omega)
   have hw4 : IntKind.i64.wrap ((N : Int) * 10 + ((x : Int) - 48)) = (N : Int) * 10 + ((x : Int) - 48) := IntWalk.i64_in _ (by omega)
   have hw5 : IntKind.i64.wrap ((k : Int) + 1) = (k : Int) + 1 := IntWalk.i64_in _ (by omega)
   have hk0 : (0 : Int) ≤ (k : Int) := by omega
   have hk1 : (k : Int) < 8 := by omega
   have hkn : ((k : Int)).toNat = k := by omega
   have Hnext := Lib.hid (And.intro hnext hcd)
   clear hcd hc hx hN hnext hlt
   go_wp2_with fail
   refine ⟨⟨k + 1, by go_num, by omega, ?_, trivial⟩, ?_⟩
   ·have h1 := Hnext.out
    congr 1
    omega
   ·show 8 - ((k : Int) + 1).toNat < 8 - ((k : Int)).toNat
    omega
  ·obtain rfl : k = 8 := by omega
   have hNn : N = n := by rw [← hN, List.take_of_length_le (by omega)]; exact Hval.out
   subst hNn
   go_wp2_with fail
   go_ret2
   exact ⟨rfl, hx⟩
end Go.Proofs.YtgglbholbkdgfaaGreatDoor
namespace Go.Proofs.YtgglbholbkdgfaaGreatDoor
open Go.RowKit
section
variable {P : Program} {ops : Array Oper} {Q : Exit → Act → World → Prop} {md : Region.Mode} {S : World → Prop} {n : Nat}
def twoB (md : Region.Mode) (ops : Array Oper) (n : Nat) (listed : Array Bool) (i j : Nat) : Bool := decide (Region.ready md ops listed = [i, j]) && decide (i < n) && decide (j < n)
theorem wpAnyN_two (i j : Nat) {oi oj : Oper} {fuel : Nat} {listed : Array Bool} {a : Act} {w : World} (hb : twoB md ops n listed i j = true) (hi : ops[i]? = some oi) (hj : ops[j]? = some oj)
  (hwi : Region.wanted oi (yielded ops a.tmps) = true) (hwj : Region.wanted oj (yielded ops a.tmps) = true)
  (h1 : ∀ K : Act → World → Prop, Shut (∀ a' w', S w' → (S w' → wpAnyN P md ops Q S n fuel (listed.setIfInBounds i true) a' w') → K a' w') → Oper.wp P oi a w K Q)
  (h2 : ∀ K : Act → World → Prop, Shut (∀ a' w', S w' → (S w' → wpAnyN P md ops Q S n fuel (listed.setIfInBounds j true) a' w') → K a' w') → Oper.wp P oj a w K Q) : wpAnyN P md ops Q S n (fuel + 1) listed a w := by
 unfold twoB at hb
 simp only [Bool.and_eq_true, decide_eq_true_eq] at hb
 refine ⟨fun h0 => (by rw [hb.1.1] at h0; cases h0), fun k hk => ?_⟩
 rw [hb.1.1] at hk
 have : k = i ∨ k = j := by simpa using hk
 rcases this with rfl | rfl
 ·refine wpOp_step hi (fun K' hK => ?_)
  rw [if_pos hwi]
  exact h1 K' (fun a' w' q1 q2 => hK a' w' ⟨fun _ => q1, q2 q1⟩)
 ·refine wpOp_step hj (fun K' hK => ?_)
  rw [if_pos hwj]
  exact h2 K' (fun a' w' q1 q2 => hK a' w' ⟨fun _ => q1, q2 q1⟩)
end
theorem dec_enc_app (l tl : List UInt8) (h : l.length ≤ 1048576) : dec (enc l ++ tl) = (l, l.length + 8, 0) := by
 have h1 : (enc l ++ tl).take 4 = be 4 l.length := by
  unfold enc
  rw [List.append_assoc, List.append_assoc, List.take_append_of_le_length (by simp [be_length]), List.take_of_length_le (by simp [be_length])]
 have h2 : (enc l ++ tl).drop 4 = be 4 (crc (be 4 l.length ++ l)) ++ (l ++ tl) := by
  unfold enc
  rw [List.append_assoc, List.append_assoc, List.drop_append_of_le_length (by simp [be_length]), List.drop_of_length_le (by simp [be_length]), List.nil_append]
 have h3 : ((enc l ++ tl).drop 4).take 4 = be 4 (crc (be 4 l.length ++ l)) := by
  rw [h2, List.take_append_of_le_length (by simp [be_length]), List.take_of_length_le (by simp [be_length])]
 have h4 : (enc l ++ tl).drop 8 = l ++ tl := by
  have : (enc l ++ tl).drop 8 = ((enc l ++ tl).drop 4).drop 4 := by rw [List.drop_drop]
  rw [this, h2, List.drop_append_of_le_length (by simp [be_length]), List.drop_of_length_le (by simp [be_length]), List.nil_append]
 unfold dec
 rw [h1, h3, h4, beV_be4 _ (by omega), beV_be4 _ (crc_lt _), List.length_append, enc_length, if_neg (by omega), if_neg (by omega), if_neg (by omega), List.take_left]
 rw [if_pos rfl, Nat.add_comm 8]
theorem RdU.drop {w : World} {a : Option Addr} {n c : Nat} {l : List UInt8} (h : RdU w (.slice a n c) l) (hn : n = l.length) (k : Nat) (hk : k ≤ l.length) (hc : l.length ≤ c) : RdU w (.slice (subA a k c) (n - k) (c - k)) (l.drop k) := by
 subst hn
 refine ⟨RdB.drop h.1 k hk hc, fun g hg => h.2 g ?_⟩
 unfold subA at hg
 split at hg
 ·cases a <;> exact hg
 ·cases a with
  | none => cases hg
  | some q => simp [Value.ownBlock, Addr.add] at hg ⊢; split at hg <;> exact hg
theorem sub_block {a : Option Addr} {n c n' c' k m : Nat} : ∀ g, (Value.slice (subA a k m) n c).ownBlock = some g → (Value.slice a n' c').ownBlock = some g := by
 intro g hg
 unfold subA at hg
 split at hg
 ·cases a <;> exact hg
 ·cases a with
  | none => cases hg
  | some q => simp [Value.ownBlock, Addr.add] at hg ⊢; split at hg <;> exact hg
theorem Chain.join : ∀ {n : Nat} {ps : List PSeg} {p : PSeg} {m : Nat}, Chain n ps m → p.first = m → p.es ≠ [] → Chain n (ps ++ [p]) (m + p.es.length)
 | n, [], p, m, h, h1, h2 => ⟨by rw [h1]; exact h.symm, h2, by rw [show n = m from h]; rfl⟩
 | n, q :: ps, p, m, h, h1, h2 => ⟨h.1, h.2.1, Chain.join h.2.2 h1 h2⟩
theorem LogAt.joined {w w' : World} {L d sg : Nat} {F : Nat → Prop} {pre : ByteArray} {sv : Value} {rs : List RSeg} {m : Nat} (h : LogAt w L d F pre sv rs m) {p : PSeg} {ev' nv' sv' : Value} {xs : List Value} {dirty : Bool}
  (x : Ext (fun b => sv.ownBlock = some b ∨ b = L) w w') (hsg : w.heap.size ≤ sg)
  (hbL : w'.heap[L]? = some (.cells #[.pointer (some ⟨d, 0, none⟩), .string pre, sv', .int .i64 (m + p.es.length : Nat)] 134 (0, 0)))
  (hsv : Own w' 140 1 sv' (rs.map RSeg.ptr ++ [.pointer (some ⟨sg, 0, none⟩)])) (hsvb : ∀ g, sv'.ownBlock = some g → sv.ownBlock = some g ∨ w.heap.size ≤ g)
  (hbS : w'.heap[sg]? = some (.cells #[.int .i64 m, ev', nv', .bool dirty] 139 (0, 0)))
  (hev : Own w' 35 1 ev' xs) (hevb : ∀ g, ev'.ownBlock = some g → w.heap.size ≤ g) (hnv : Own w' 3 1 nv' (natsV p.ends)) (hnvb : ∀ g, nv'.ownBlock = some g → w.heap.size ≤ g)
  (hrows : Rows3 w' (fun g => w.heap.size ≤ g ∧ g < w'.heap.size) xs p.es) (hpf : p.first = m) (hne : p.es ≠ [])
  (hm : m + p.es.length ≤ 100) (hb : p.bytes.length ≤ 1073741824) :
  LogAt w' L d (Gr F w w') pre sv' (rs ++ [⟨sg, p, ev', nv', xs, dirty⟩]) (m + p.es.length) := by
 have hF : ∀ b, F b → Gr F w w' b := fun b hb => .inl hb
 have hnew : ∀ g, w.heap.size ≤ g → g < w'.heap.size → Gr F w w' g := fun g h1 h2 => .inr ⟨h1, h2⟩
 have hu : ∀ g, F g → ∀ cs fr, w.heap[g]? = some (.cells cs 5 fr) → ¬ (sv.ownBlock = some g ∨ g = L) := by
  intro g hgF cs fr hg hG
  rcases hG with hG | hG
  ·exact h.segs.ne_blk hg (by decide) g hG rfl
  ·exact absurd (blk_cells_inj hg (hG ▸ h.blk)) (by decide)
 refine ⟨hbL, .inl h.self, ?_, ?_, ?_, ?_, ?_, ?_, hm, ?_, h.preL⟩
 ·simp only [List.map_append, List.map_cons, List.map_nil, RSeg.ptr] at hsv ⊢
  exact hsv
 ·intro g hg
  rcases hsvb g hg with h1 | h1
  ·exact hF g (h.segsF g h1)
  ·exact hnew g h1 (hsv.lt g hg)
 ·intro q hq
  rcases List.mem_append.1 hq with hq | hq
  ·have hqs := h.each q hq
   refine hqs.ext2 x ?_ ?_ ?_ hu hF
   ·rintro (hG | hG)
    ·exact h.segs.ne_blk hqs.blk (by decide) _ hG rfl
    ·exact absurd (blk_cells_inj (hG ▸ hqs.blk) h.blk) (by decide)
   ·intro g hg hG
    rcases hG with hG | hG
    ·exact own_apart h.segs hqs.ents (by decide) g hg hG
    ·exact hqs.ents.ne_blk h.blk (by decide) g hg hG.symm
   ·intro g hg hG
    rcases hG with hG | hG
    ·exact own_apart h.segs hqs.ends (by decide) g hg hG
    ·exact hqs.ends.ne_blk h.blk (by decide) g hg hG.symm
  ·have : q = ⟨sg, p, ev', nv', xs, dirty⟩ := by simpa using hq
   subst this
   exact ⟨by rw [hpf]; exact hbS, hnew _ hsg (lt_of_blk hbS), hev, fun g hg => hnew g (hevb g hg) (hev.lt g hg), hnv, fun g hg => hnew g (hnvb g hg) (hnv.lt g hg), hrows.mono (fun g hg => hnew g hg.1 hg.2)⟩
 ·rw [List.pairwise_append]
  refine ⟨h.apart, by simp, fun a ha b hb => ?_⟩
  have : b = ⟨sg, p, ev', nv', xs, dirty⟩ := by simpa using hb
  subst this
  have has := h.each a ha
  refine ⟨fun e => by have := h.lt _ has.self; rw [show a.sg = sg from e] at this; omega, fun g hg hg' => ?_, fun g hg hg' => ?_⟩
  ·have := has.ents.lt g hg; have := hevb g hg'; omega
  ·have := has.ends.lt g hg; have := hnvb g hg'; omega
 ·have := h.chain
  simp only [List.map_append, List.map_cons, List.map_nil] at this ⊢
  exact this.join hpf hne
 ·intro b hb
  rcases hb with hb | hb
  ·exact Nat.lt_of_lt_of_le (h.lt b hb) x.size
  ·exact hb.2
 ·intro q hq
  rcases List.mem_append.1 hq with hq | hq
  ·exact h.bytes30 q hq
  ·have : q = ⟨sg, p, ev', nv', xs, dirty⟩ := by simpa using hq
   subst this
   exact hb
end Go.Proofs.YtgglbholbkdgfaaGreatDoor
