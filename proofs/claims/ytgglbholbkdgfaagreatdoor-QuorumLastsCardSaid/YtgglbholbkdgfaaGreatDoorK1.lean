/- Joined texts: B0 B1 B2 B3 B4 B5. Each has its own head. -/
import Derived.WalkKit
import Derived.Deep.Draws
import Derived.Deep.AppendSrc
import Derived.Test.YtgglbholbkdgfaaGreatDoorRows
import Derived.WalkLawsBesides
import Derived.WalkSpells
import Derived.Deep.QuietTactic
import Derived.BigQuiet
import Derived.BigRegion
import Derived.Lib.Hide
import Derived.Handy
set_option linter.unusedVariables false
set_option linter.unusedSimpArgs false
namespace Go.Proofs.YtgglbholbkdgfaaGreatDoor
open Go.RowKit
theorem halt2 {p : Prop} (h : ∀ K : Prop, Hid (p → K) → K) : p := h p (fun h => h)
structure Ext (F : Nat → Prop) (w w' : World) : Prop where
 os : w'.os = w.os
 tape : w'.tape = w.tape
 output : w'.output = w.output
 size : w.heap.size ≤ w'.heap.size
 block : ∀ k, k < w.heap.size → ¬ F k → w'.heap[k]? = w.heap[k]?
def NoB : Nat → Prop := fun _ => False
def OneB (r : Nat) : Nat → Prop := fun k => k = r
theorem Ext.refl (F : Nat → Prop) (w : World) : Ext F w w := ⟨rfl, rfl, rfl, Nat.le_refl _, fun _ _ _ => rfl⟩
theorem Ext.trans' {F G H : Nat → Prop} {a b c : World} (h : Ext F a b) (k : Ext G b c) (hF : ∀ x, x < a.heap.size → F x → H x) (hG : ∀ x, x < a.heap.size → G x → H x) : Ext H a c :=
 ⟨k.os.trans h.os, k.tape.trans h.tape, k.output.trans h.output, Nat.le_trans h.size k.size, fun i hi hn =>
  (k.block i (Nat.lt_of_lt_of_le hi h.size) (fun e => hn (hG i hi e))).trans (h.block i hi (fun e => hn (hF i hi e)))⟩
theorem Ext.trans {F : Nat → Prop} {a b c : World} (h : Ext F a b) (k : Ext F b c) : Ext F a c := h.trans' k (fun _ _ h => h) (fun _ _ h => h)
theorem Ext.mono {F G : Nat → Prop} {a b : World} (h : Ext F a b) (hF : ∀ x, x < a.heap.size → F x → G x) : Ext G a b :=
 ⟨h.os, h.tape, h.output, h.size, fun i hi hn => h.block i hi (fun e => hn (hF i hi e))⟩
theorem Ext.of_no {F : Nat → Prop} {a b : World} (h : Ext NoB a b) : Ext F a b := h.mono (fun _ _ h => h.elim)
theorem Ext.drewN {F : Nat → Prop} {a w : World} (h : Ext F a w) (n : Nat) : Ext F a (w.drewN n) := ⟨h.os, h.tape, h.output, h.size, h.block⟩
theorem Ext.drew {F : Nat → Prop} {a w : World} (h : Ext F a w) : Ext F a w.drew := ⟨h.os, h.tape, h.output, h.size, h.block⟩
theorem Ext.alloc {F : Nat → Prop} {a w : World} (h : Ext F a w) (o : Obj) : Ext F a (w.alloc o) :=
 ⟨h.os, h.tape, h.output, by have := h.size; simp; omega, fun k hk hn => (Below.heap_alloc w o k (by have := h.size; omega)).trans (h.block k hk hn)⟩
theorem Ext.setCell {F : Nat → Prop} {a w : World} (h : Ext F a w) {p : Addr} (hp : F p.block ∨ a.heap.size ≤ p.block) (u : Value) : Ext F a (w.setCell p u) :=
 ⟨h.os, h.tape, h.output, by have := h.size; simpa [World.setCell] using this, fun k hk hn => (Below.heap_setCell w p u k (by rintro rfl; rcases hp with h | h; exact hn h; omega)).trans (h.block k hk hn)⟩
theorem Ext.setRow {F : Nat → Prop} {a w : World} (h : Ext F a w) {g : Nat} (hp : F g ∨ a.heap.size ≤ g) (cs : Array Value) : Ext F a (w.setRow g cs) :=
 ⟨h.os, h.tape, h.output, by have := h.size; simpa [World.setRow] using this, fun k hk hn => (setRow_other w g k cs (by rintro rfl; rcases hp with h | h; exact hn h; omega)).trans (h.block k hk hn)⟩
theorem Ext.below {w w' : World} (h : Ext NoB w w') : Below w.heap.size w w' := ⟨h.os, h.tape, h.output, h.size, fun k hk => h.block k hk (fun e => e)⟩
theorem Ext.of_below {F : Nat → Prop} {w w' : World} (h : Below w.heap.size w w') : Ext F w w' := ⟨h.os, h.tape, h.output, h.size, fun k hk _ => h.block k hk⟩
theorem Ext.next {F G : Nat → Prop} {a w w' : World} (h : Ext F a w) (k : Ext G w w') (hG : ∀ x, G x → x < a.heap.size → F x) : Ext F a w' := h.trans' k (fun _ _ h => h) (fun x hx g => hG x g hx)
theorem Ext.nextNo {F : Nat → Prop} {a w w' : World} (h : Ext F a w) (k : Ext NoB w w') : Ext F a w' := h.trans k.of_no
theorem Ext.blk {F : Nat → Prop} {w w' : World} (h : Ext F w w') {b : Nat} {o : Obj} (hb : w.heap[b]? = some o) (hF : ¬ F b) : w'.heap[b]? = some o :=
 (h.block b (Array.getElem?_eq_some_iff.1 hb).1 hF).trans hb
theorem Ext.cell {F : Nat → Prop} {w w' : World} (h : Ext F w w') {p : Addr} {v : Value} (hc : w.cell? p = some v) (hF : ¬ F p.block) : w'.cell? p = some v :=
 (World.cell?_of_block (w := w) (h.block p.block (World.block_lt_of_cell? w p hc) hF)).trans hc
theorem lt_of_blk {w : World} {b : Nat} {o : Obj} (h : w.heap[b]? = some o) : b < w.heap.size := (Array.getElem?_eq_some_iff.1 h).1
theorem cell_of_blk {w : World} {b : Nat} {cs : Array Value} {t : TypeId} {fr : Nat × Nat} (h : w.heap[b]? = some (.cells cs t fr)) (o : Nat) : w.cell? ⟨b, o, none⟩ = cs[o]? := by simp [World.cell?, h]
theorem frozen_of_blk {w : World} {b : Nat} {cs : Array Value} {t : TypeId} (h : w.heap[b]? = some (.cells cs t (0, 0))) (o : Nat) : w.frozen? ⟨b, o, none⟩ = false := by simp [World.frozen?, h]
theorem blk_setCell {w : World} {b : Nat} {cs : Array Value} {t : TypeId} {fr : Nat × Nat} (h : w.heap[b]? = some (.cells cs t fr)) (o : Nat) (v : Value) : (w.setCell ⟨b, o, none⟩ v).heap[b]? = some (.cells (cs.setIfInBounds o v) t fr) := by
 simp only [World.setCell, Array.getElem?_modify, if_true, h]; simp
theorem blk_setCell_ne {w : World} {b : Nat} {o : Obj} {p : Addr} (h : w.heap[b]? = some o) (hne : b ≠ p.block) (v : Value) : (w.setCell p v).heap[b]? = some o := (Below.heap_setCell w p v b hne).trans h
theorem blk_alloc {w : World} {b : Nat} {o : Obj} (h : w.heap[b]? = some o) (x : Obj) : (w.alloc x).heap[b]? = some o := (Below.heap_alloc w x b (lt_of_blk h)).trans h
theorem blk_new (w : World) (x : Obj) : (w.alloc x).heap[w.heap.size]? = some x := heap_alloc_new w x
theorem blk_drewN {w : World} {b : Nat} {o : Obj} (h : w.heap[b]? = some o) (n : Nat) : (w.drewN n).heap[b]? = some o := h
def Own (w : World) (e size : Nat) (v : Value) (xs : List Value) : Prop :=
 (v = .slice none 0 0 ∧ xs = []) ∨
 ∃ g n cap cur, v = .slice (some ⟨g, 0, none⟩) n cap ∧ w.heap[g]? = some (.cells cur e (0, 0)) ∧ n ≤ cap ∧ cap * size ≤ cur.size ∧ cap ≤ maxLen ∧ xs.length = n * size ∧ cur.toList.take (n * size) = xs
def Rd (w : World) (size : Nat) (v : Value) (xs : List Value) : Prop :=
 ∃ a n c, v = .slice a n c ∧ xs.length = n * size ∧ n ≤ c ∧ c ≤ maxLen ∧ (∀ p, a = some p → p.spot = none) ∧ (xs ≠ [] → ∃ b off, a = some ⟨b, off, none⟩ ∧ ∀ j u, xs[j]? = some u → w.cell? ⟨b, off + j, none⟩ = some u)
def Off (F : Nat → Prop) (v : Value) : Prop := ∀ g, v.ownBlock = some g → ¬ F g
def Fresh (w : World) (v : Value) : Prop := ∀ g, v.ownBlock = some g → w.heap.size ≤ g
theorem Fresh.off {w : World} {v : Value} (h : Fresh w v) {F : Nat → Prop} (hF : ∀ x, F x → x < w.heap.size) : Off F v := fun g hg hf => by have := h g hg; have := hF g hf; omega
theorem Fresh.mono {w w' : World} {v : Value} (h : Fresh w' v) (hs : w.heap.size ≤ w'.heap.size) : Fresh w v := fun g hg => Nat.le_trans hs (h g hg)
theorem Fresh.nil (w : World) (n c : Nat) : Fresh w (.slice none n c) := fun g hg => by cases hg
theorem Fresh.new (w : World) (o : Nat) (sp : Option Nat) (n c : Nat) : Fresh w (.slice (some ⟨w.heap.size, o, sp⟩) n c) := fun g hg => by simp [Value.ownBlock] at hg; omega
theorem Own.nil (w : World) (e size : Nat) : Own w e size (.slice none 0 0) [] := .inl ⟨rfl, rfl⟩
theorem Own.lt {w : World} {e size : Nat} {v : Value} {xs : List Value} (h : Own w e size v xs) : ∀ g, v.ownBlock = some g → g < w.heap.size := by
 intro g hg
 rcases h with ⟨rfl, _⟩ | ⟨g', n, cap, cur, rfl, hb, _⟩
 ·cases hg
 ·simp [Value.ownBlock] at hg; subst hg; exact lt_of_blk hb
theorem Own.ext {w w' : World} {F : Nat → Prop} {e size : Nat} {v : Value} {xs : List Value} (h : Own w e size v xs) (x : Ext F w w') (hF : Off F v) : Own w' e size v xs := by
 rcases h with h | ⟨g, n, cap, cur, rfl, hb, r⟩
 ·exact .inl h
 ·exact .inr ⟨g, n, cap, cur, rfl, x.blk hb (hF g rfl), r⟩
theorem Own.ne_blk {w : World} {e size b : Nat} {v : Value} {xs : List Value} (h : Own w e size v xs) {cs : Array Value} {t : TypeId} {fr : Nat × Nat} (hb : w.heap[b]? = some (.cells cs t fr)) (hne : t ≠ e) : ∀ g, v.ownBlock = some g → b ≠ g := by
 rintro g hg rfl
 rcases h with ⟨rfl, _⟩ | ⟨g', n, cap, cur, rfl, hb', _⟩
 ·cases hg
 ·simp [Value.ownBlock] at hg
  rw [hg, hb] at hb'
  injection hb' with h1
  injection h1 with h2 h3 h4
  exact hne h3
theorem Own.ne_map {w : World} {e size b : Nat} {v : Value} {xs : List Value} (h : Own w e size v xs) {es : Array MapEntry} {c : Nat} (hb : w.heap[b]? = some (.map es c)) : ∀ g, v.ownBlock = some g → b ≠ g := by
 rintro g hg rfl
 rcases h with ⟨rfl, _⟩ | ⟨g', n, cap, cur, rfl, hb', _⟩
 ·cases hg
 ·simp [Value.ownBlock] at hg
  rw [hg, hb] at hb'
  cases hb'
theorem Own.no {w w' : World} {e size : Nat} {v : Value} {xs : List Value} (h : Own w e size v xs) (x : Ext NoB w w') : Own w' e size v xs := h.ext x (fun _ _ h => h)
theorem Own.rd {w : World} {e size : Nat} {v : Value} {xs : List Value} (h : Own w e size v xs) : Rd w size v xs := by
 rcases h with ⟨rfl, rfl⟩ | ⟨g, n, cap, cur, rfl, hb, hn, hc, hm, hl, ht⟩
 ·exact ⟨none, 0, 0, rfl, by simp, Nat.le_refl _, by unfold maxLen; omega, (fun _ h => by cases h), fun h => (h rfl).elim⟩
 ·refine ⟨_, n, cap, rfl, hl, hn, hm, (fun _ h => by cases h; rfl), fun _ => ⟨g, 0, rfl, fun j u hu => ?_⟩⟩
  rw [Nat.zero_add, cell_of_blk hb]
  rw [← ht, List.getElem?_take] at hu
  split at hu
  ·simpa using hu
  ·cases hu
theorem Rd.ext {w w' : World} {F : Nat → Prop} {size : Nat} {v : Value} {xs : List Value} (h : Rd w size v xs) (x : Ext F w w') (hF : Off F v) : Rd w' size v xs := by
 obtain ⟨a, n, c, rfl, hl, hn, hc, hs, hr⟩ := h
 refine ⟨a, n, c, rfl, hl, hn, hc, hs, fun hne => ?_⟩
 obtain ⟨b, off, rfl, hcell⟩ := hr hne
 exact ⟨b, off, rfl, fun j u hu => x.cell (hcell j u hu) (hF b rfl)⟩
theorem Rd.no {w w' : World} {size : Nat} {v : Value} {xs : List Value} (h : Rd w size v xs) (x : Ext NoB w w') : Rd w' size v xs := h.ext x (fun _ _ h => h)
theorem Rd.nil (w : World) (size : Nat) : Rd w size (.slice none 0 0) [] := (Own.nil w 0 size).rd
theorem Rd.shape {w : World} {v : Value} {xs : List Value} (h : Rd w 1 v xs) : ∃ a c, v = .slice a xs.length c ∧ xs.length ≤ c ∧ c ≤ maxLen := by
 obtain ⟨a, n, c, rfl, hl, hn, hc, _, _⟩ := h
 exact ⟨a, c, by rw [hl, Nat.mul_one], by omega, hc⟩
def ElemT (P : Program) (e size bytes : Nat) : Prop := ∃ i z, P.info? e = some i ∧ i.zero = some z ∧ i.size = size ∧ i.bytes = bytes ∧ z.cells.size = size ∧ 0 < size
theorem ElemT.of {P : Program} {e size bytes : Nat} {z : Value} (h : (P.info? e).map (fun i => (i.zero, i.size, i.bytes)) = some (some z, size, bytes)) (hz : z.cells.size = size) (h0 : 0 < size) : ElemT P e size bytes := by
 obtain ⟨i, hi, h1, h2, h3⟩ := info_parts h
 exact ⟨i, z, hi, h1, h2, h3, hz, h0⟩
theorem Rd.src {P : Program} {w : World} {size tx e' : Nat} {v : Value} {xs : List Value} (hk : P.underlying tx = some (.slice e')) (h : Rd w size v xs) (h1 : ∀ u ∈ xs, u.oneCell' = true) (hz : 0 < size) :
  Src P size tx v (xs.length / size) xs w := by
 obtain ⟨a, n, c, rfl, hl, hn, hc, hs, hr⟩ := h
 have hn' : xs.length / size = n := by rw [hl]; exact Nat.mul_div_cancel _ hz
 rw [hn']
 match xs, a with
 | [], none =>
  have : n = 0 := by rcases Nat.eq_zero_or_pos n with h | h; exact h; (have := Nat.mul_pos h hz; simp at hl; omega)
  subst this
  exact Src.ofNil w hk c
 | [], some p =>
  have : n = 0 := by rcases Nat.eq_zero_or_pos n with h | h; exact h; (have := Nat.mul_pos h hz; simp at hl; omega)
  subst this
  exact Src.ofSlice w hk p 0 c [] (by simp) (by simp) (by simp)
 | x :: xs, a =>
  obtain ⟨b, off, rfl, hcell⟩ := hr (by simp)
  refine Src.ofSlice w hk _ n c _ hl (fun j u hu => ?_) h1
  have := hcell j u hu
  unfold Addr.add
  split
  ·subst_vars; simpa using this
  ·exact this
section
variable {P : Program} (w : World)
theorem run_app (t tx ty e size bytes : Nat) (ht : P.underlying t = some (.slice e)) (hE : ElemT P e size bytes)
  (v : Value) (xs : List Value) (hown : Own w e size v xs) (x : Value) (m : Nat) (news : List Value) (hs : Src P size tx x m news w) (hb : (xs.length + news.length) * bytes ≤ 140737488355328) (hb0 : 0 < bytes) :
  ∃ v' w', (Builtin.append_ #[t, tx] ty #[v, x]).run P w = .ok v' w' ∧ Own w' e size v' (xs ++ news) ∧ Ext (fun k => v.ownBlock = some k) w w' ∧ (v'.ownBlock = v.ownBlock ∨ ∃ g, v'.ownBlock = some g ∧ w.heap.size ≤ g) := by
 obtain ⟨i, z, hi, hz, hsize, hby, hzs, hsz⟩ := hE
 subst hsize; subst hby
 have hl := hs.newsLen
 -- the growing arm
 have hgrow : ∀ (base : Option Addr) (n old : Nat) (hxs : xs.length = n * i.size) (hold : (Builtin.firstCells i.size n (.slice base n old)).run P w.drew = .ok xs.toArray w.drew) (hlt : old < n + m),
   ∃ v' w', (Builtin.append_ #[t, tx] ty #[.slice base n old, x]).run P w = .ok v' w' ∧ Own w' e i.size v' (xs ++ news) ∧ Ext (fun k => (Value.slice base n old).ownBlock = some k) w w' ∧ (v'.ownBlock = (Value.slice base n old).ownBlock ∨ ∃ g, v'.ownBlock = some g ∧ w.heap.size ≤ g) := by
  intro base n old hxs hold hlt
  have hnb : (n + m) * i.bytes ≤ 140737488355328 := by
   refine Nat.le_trans (Nat.mul_le_mul_right _ ?_) hb
   rw [hxs, hl, ← Nat.add_mul]
   exact Nat.le_mul_of_pos_right _ hsz
  have hnm : n + m ≤ 140737488355328 := Nat.le_trans (Nat.le_mul_of_pos_right _ hb0) hnb
  have hr := run_append_grow_src (P := P) w t tx ty e i z ht hi hz base n old xs hold x m news hs hlt (by omega) (growslice_fits hlt hnb)
  have hge := grownCap_ge w (n + m) old e
  have hcm : grownCap w (n + m) old e ≤ maxLen := grownCap_le_maxLen w (n + m) old e (by unfold maxLen; omega)
  refine ⟨_, _, hr, .inr ⟨w.heap.size, n + m, grownCap w (n + m) old e, _, rfl, heap_alloc_new w.drew _, hge, ?_, hcm, ?_, ?_⟩, ((Ext.refl _ w).drew).alloc _, .inr ⟨w.heap.size, rfl, Nat.le_refl _⟩⟩
  ·simp only [Array.size_append, List.size_toArray, List.length_append, size_zeroCells, hzs, hxs, hl, ← Nat.add_mul]
   exact Nat.mul_le_mul_right _ (by omega)
  ·rw [List.length_append, hxs, hl, Nat.add_mul]
  ·have : (n + m) * i.size = (xs ++ news).length := by rw [List.length_append, hxs, hl, Nat.add_mul]
   rw [this]
   simp only [Array.toList_append]
   exact List.take_left
 rcases hown with ⟨rfl, rfl⟩ | ⟨g, n, cap, cur, rfl, hg, hnc, hcs, hcm, hxl, htake⟩
 ·by_cases hm : m = 0
  ·subst hm
   have hn : news = [] := List.eq_nil_of_length_eq_zero (by simpa using hl)
   subst hn
   refine ⟨.slice none 0 0, w, ?_, .inl ⟨rfl, rfl⟩, Ext.refl _ _, .inl rfl⟩
   rcases hs.kind with ⟨e', hk⟩ | hk <;> simp [Builtin.append_, run_underlying ht, run_underlying hk, sizeOf, typeInfo, hi, hs.len, hs.cells]
  ·exact hgrow none 0 0 (by simp) (run_firstCells_none w.drew i.size 0 0 0) (by omega)
 ·by_cases hroom : n + m ≤ cap
  ·have hfit : n * i.size + news.length ≤ cur.size := by rw [hl, ← Nat.add_mul]; exact Nat.le_trans (Nat.mul_le_mul_right _ hroom) hcs
   have hst := run_storeCells_at P g (n * i.size) e news 0 cur w hg (by simpa using hfit) hs.one
   simp only [Nat.add_zero] at hst
   refine ⟨.slice (some ⟨g, 0, none⟩) (n + m) cap, w.setRow g (cur.toList.take (n * i.size) ++ news ++ cur.toList.drop (n * i.size + news.length)).toArray, ?_, .inr ⟨g, n + m, cap, _, rfl, setRow_heap w g cur _ e _ hg, hroom, ?_, hcm, ?_, ?_⟩, (Ext.refl (fun k => (Value.slice (some ⟨g, 0, none⟩) n cap).ownBlock = some k) w).setRow (.inl rfl) _, .inl rfl⟩
   ·rcases hs.kind with ⟨e', hk⟩ | hk <;> simp [Builtin.append_, run_underlying ht, run_underlying hk, sizeOf, typeInfo, hi, hs.len, hroom, hs.cells, Addr.add_lit, hst]
   ·simp only [List.size_toArray, List.length_append, List.length_take, List.length_drop, Array.length_toList]
    omega
   ·rw [List.length_append, hxl, hl, Nat.add_mul]
   ·have : (n + m) * i.size = (xs ++ news).length := by rw [List.length_append, hxl, hl, Nat.add_mul]
    rw [this, htake]
    exact List.take_left
  ·refine hgrow _ n cap hxl (run_firstCells_some w.drew i.size n ⟨g, 0, none⟩ n cap xs hxl fun j u hu => ?_) (by omega)
   obtain ⟨_, _, _, hv, _, _, _, _, hr⟩ := Own.rd (w := w) (e := e) (size := i.size) (xs := xs) (.inr ⟨g, n, cap, cur, rfl, hg, hnc, hcs, hcm, hxl, htake⟩)
   cases hv
   obtain ⟨b, off, hbo, hc⟩ := hr (by rintro rfl; cases hu)
   cases hbo
   have := hc j u hu
   rw [Addr.add_lit]
   simpa using this
theorem wp_app {o : Oper} {a : Act} {K : Act → World → Prop} {Q : Exit → Act → World → Prop} (s x : Operand) (t tx : TypeId)
  (ho : o.op = .call { callee := .builtin .append, args := #[s, x], argTypes := #[t, tx] })
  (e size bytes : Nat) (ht : P.underlying t = some (.slice e)) (hE : ElemT P e size bytes)
  (xs : List Value) (hown : Own w e size (a.eval s) xs) (m : Nat) (news : List Value) (hs : Src P size tx (a.eval x) m news w) (hb : (xs.length + news.length) * bytes ≤ 140737488355328) (hb0 : 0 < bytes)
  (h : ∀ v' w', Own w' e size v' (xs ++ news) → Ext (fun k => (a.eval s).ownBlock = some k) w w' → (v'.ownBlock = (a.eval s).ownBlock ∨ ∃ g, v'.ownBlock = some g ∧ w.heap.size ≤ g) → K (a.put o.dst v') w') : o.wp P a w K Q := by
 obtain ⟨v', w', hr, h2, h3, h4⟩ := run_app (P := P) w t tx o.type e size bytes ht hE (a.eval s) xs hown (a.eval x) m news hs hb hb0
 unfold Oper.wp execOp
 simp only [ho, resolve, invoke, builtin, Sem.run_bind, Sem.run_pure, Result.andThen_ok, List.map_toArray, List.map_cons, List.map_nil, hr]
 exact h v' w' h2 h3 h4
theorem wpList_app {ops : Array Oper} {rest : List Oper} {o : Oper} {a : Act} {Q : Exit → Act → World → Prop} (hgd : o.guard = none) (s x : Operand) (t tx : TypeId)
  (ho : o.op = .call { callee := .builtin .append, args := #[s, x], argTypes := #[t, tx] })
  (e size bytes : Nat) (ht : P.underlying t = some (.slice e)) (hE : ElemT P e size bytes) {v u : Value} {xs : List Value} (hown : Own w e size v xs) {m : Nat} {news : List Value} (hs : Src P size tx u m news w) (hv : a.eval s = v) (hu : a.eval x = u) (hb : (xs.length + news.length) * bytes ≤ 140737488355328) (hb0 : 0 < bytes)
  (h : ∀ v' w', Own w' e size v' (xs ++ news) → Ext (fun k => v.ownBlock = some k) w w' → (v'.ownBlock = v.ownBlock ∨ ∃ g, v'.ownBlock = some g ∧ w.heap.size ≤ g) → wpList P ops Q rest (a.put o.dst v') w') : wpList P ops Q (o :: rest) a w := by
 subst hv; subst hu
 exact wpList_plain hgd fun _ hK => wp_app w s x t tx ho e size bytes ht hE xs hown m news hs hb hb0 fun v' w' h2 h3 h4 => hK _ _ (h v' w' h2 h3 h4)
end
def subA (a : Option Addr) (l c : Nat) : Option Addr := if c = l then a else a.map (·.add l)
section
variable {P : Program} (w : World)
theorem run_sub_lh (t e : TypeId) (ht : P.underlying t = some (.slice e)) (hz : (P.info? e).map (·.size) = some 1) (a : Option Addr) (len cap : Nat) (k k' : IntKind) (l h : Int) (h0 : 0 ≤ l) (h1 : l ≤ h) (h2 : h ≤ cap) :
  (Instr.slice t (.slice a len cap) (some (.int k l)) (some (.int k' h)) none).run P w = .ok (.slice (subA a l.toNat cap) (h.toNat - l.toNat) (cap - l.toNat)) w := by
 have ht' : P.underlying t = some (.slice (P.elem t)) := by simp [Program.elem, ht]
 have he : P.elem t = e := by simp [Program.elem, ht]
 obtain ⟨i, hi, hs⟩ : ∃ i, P.info? e = some i ∧ i.size = 1 := by simpa [Option.map_eq_some_iff] using hz
 rw [run_slice_lh w t a len cap ht' k k' l h h0 h1 h2, he]
 simp [sizeOf, typeInfo, hi, hs, sliced, subA, Result.andThen]
theorem run_sub_l (t e : TypeId) (ht : P.underlying t = some (.slice e)) (hz : (P.info? e).map (·.size) = some 1) (a : Option Addr) (len cap : Nat) (k : IntKind) (l : Int) (h0 : 0 ≤ l) (h1 : l ≤ len) :
  (Instr.slice t (.slice a len cap) (some (.int k l)) none none).run P w = .ok (.slice (subA a l.toNat cap) (len - l.toNat) (cap - l.toNat)) w := by
 have ht' : P.underlying t = some (.slice (P.elem t)) := by simp [Program.elem, ht]
 have he : P.elem t = e := by simp [Program.elem, ht]
 obtain ⟨i, hi, hs⟩ : ∃ i, P.info? e = some i ∧ i.size = 1 := by simpa [Option.map_eq_some_iff] using hz
 rw [run_slice_l w t a len cap ht' k l h0 h1, he]
 simp [sizeOf, typeInfo, hi, hs, sliced, subA, Result.andThen]
theorem run_sub_hm (t e : TypeId) (ht : P.underlying t = some (.slice e)) (hz : (P.info? e).map (·.size) = some 1) (a : Option Addr) (len cap : Nat) (k k' : IntKind) (h m : Int) (h0 : 0 ≤ h) (h1 : h ≤ m) (h2 : m ≤ cap) :
  (Instr.slice t (.slice a len cap) none (some (.int k h)) (some (.int k' m))).run P w = .ok (.slice a h.toNat m.toNat) w := by
 have ht' : P.underlying t = some (.slice (P.elem t)) := by simp [Program.elem, ht]
 have he : P.elem t = e := by simp [Program.elem, ht]
 obtain ⟨i, hi, hs⟩ : ∃ i, P.info? e = some i ∧ i.size = 1 := by simpa [Option.map_eq_some_iff] using hz
 rw [run_slice_hm w t a len cap ht' k k' h m h0 h1 h2, he]
 cases a <;> simp [sizeOf, typeInfo, hi, hs, sliced, Result.andThen, Addr.add]
end
theorem Rd.sub {w : World} {a : Option Addr} {n c : Nat} {xs : List Value} (h : Rd w 1 (.slice a n c) xs) (l k m : Nat) (hk : l + k ≤ n) (hm : l + k ≤ m) (hmc : m ≤ c) : Rd w 1 (.slice (subA a l m) k (m - l)) ((xs.drop l).take k) := by
 obtain ⟨a', n', c', hv, hl, hn, hc, hs, hr⟩ := h
 cases hv
 have hlen : ((xs.drop l).take k).length = k := by simp; omega
 refine ⟨_, k, _, rfl, by rw [hlen, Nat.mul_one], by omega, by omega, ?_, fun hne => ?_⟩
 ·intro p hp
  unfold subA at hp
  split at hp
  ·exact hs p hp
  ·cases a with
   | none => cases hp
   | some q =>
    have hq := hs q rfl
    simp at hp; subst hp
    unfold Addr.add
    split
    ·exact hq
    ·rfl
 ·have hk0 : 0 < k := by rcases k with _ | k; simp at hne; omega
  obtain ⟨b, off, rfl, hcell⟩ := hr (by rintro rfl; simp at hne)
  refine ⟨b, off + l, ?_, fun j u hu => ?_⟩
  ·unfold subA
   rw [if_neg (by omega)]
   simp [Addr.add]
  ·rw [List.getElem?_take] at hu
   split at hu
   ·rw [List.getElem?_drop] at hu
    rw [Nat.add_assoc]; exact hcell _ u hu
   ·cases hu
theorem Off.sub {F : Nat → Prop} {a : Option Addr} {n c : Nat} (h : Off F (.slice a n c)) (l k m m' : Nat) : Off F (.slice (subA a l m) k m') := by
 intro g hg
 apply h g
 unfold subA at hg
 split at hg
 ·cases a <;> exact hg
 ·cases a with
  | none => cases hg
  | some q => simp [Value.ownBlock, Addr.add] at hg ⊢; split at hg <;> exact hg
def bytesV (l : List UInt8) : List Value := l.map fun b => Value.int .u8 b.toNat
def intsV (l : List Int) : List Value := l.map (Value.int .i64)
theorem bytesV_one (l : List UInt8) : ∀ u ∈ bytesV l, u.oneCell' = true := by intro u hu; obtain ⟨_, _, rfl⟩ := List.mem_map.1 hu; rfl
theorem intsV_one (l : List Int) : ∀ u ∈ intsV l, u.oneCell' = true := by intro u hu; obtain ⟨_, _, rfl⟩ := List.mem_map.1 hu; rfl
@[simp] theorem bytesV_length (l : List UInt8) : (bytesV l).length = l.length := by simp [bytesV]
@[simp] theorem intsV_length (l : List Int) : (intsV l).length = l.length := by simp [intsV]
theorem bytesV_append (a b : List UInt8) : bytesV (a ++ b) = bytesV a ++ bytesV b := by simp [bytesV]
def RdB (w : World) (v : Value) (l : List UInt8) : Prop := Rd w 1 v (bytesV l)
theorem RdB.shape {w : World} {v : Value} {l : List UInt8} (h : RdB w v l) : ∃ a c, v = .slice a l.length c ∧ l.length ≤ c ∧ c ≤ maxLen := by
 have := Rd.shape h
 simpa using this
theorem Rd.sub0 {w : World} {a : Option Addr} {n c : Nat} {xs : List Value} (h : Rd w 1 (.slice a n c) xs) (k m : Nat) (hk : k ≤ n) (hm : k ≤ m) (hmc : m ≤ c) : Rd w 1 (.slice a k m) (xs.take k) := by
 have := Rd.sub h 0 k m (by omega) (by omega) hmc
 have e : subA a 0 m = a := by unfold subA; split; rfl; cases a <;> simp [Addr.add]
 rw [e] at this
 simpa using this
theorem RdB.sub {w : World} {a : Option Addr} {n c : Nat} {l : List UInt8} (h : RdB w (.slice a n c) l) (o k m : Nat) (hk : o + k ≤ n) (hm : o + k ≤ m) (hmc : m ≤ c) : RdB w (.slice (subA a o m) k (m - o)) ((l.drop o).take k) := by
 have := Rd.sub h o k m hk hm hmc
 unfold RdB bytesV at *
 rwa [← List.map_drop, ← List.map_take] at this
theorem RdB.sub0 {w : World} {a : Option Addr} {n c : Nat} {l : List UInt8} (h : RdB w (.slice a n c) l) (k m : Nat) (hk : k ≤ n) (hm : k ≤ m) (hmc : m ≤ c) : RdB w (.slice a k m) (l.take k) := by
 have := Rd.sub0 h k m hk hm hmc
 unfold RdB bytesV at *
 rwa [← List.map_take] at this
theorem RdB.drop {w : World} {a : Option Addr} {c : Nat} {l : List UInt8} (h : RdB w (.slice a l.length c) l) (o : Nat) (ho : o ≤ l.length) (hc : l.length ≤ c) : RdB w (.slice (subA a o c) (l.length - o) (c - o)) (l.drop o) := by
 have := RdB.sub h o (l.length - o) c (by omega) (by omega) (Nat.le_refl _)
 rwa [List.take_of_length_le (by simp)] at this
theorem Src.one {P : Program} {w : World} {tx e' : Nat} (hk : P.underlying tx = some (.slice e')) (b : Nat) (x : Value) (t : TypeId) (fr : Nat × Nat) (hb : w.heap[b]? = some (.cells #[x] t fr)) (h1 : x.oneCell' = true) : Src P 1 tx (.slice (some ⟨b, 0, none⟩) 1 1) 1 [x] w := by
 refine Src.ofSlice w hk _ 1 1 [x] rfl (fun j u hu => ?_) (by simpa using h1)
 match j, hu with
 | 0, hu => simp at hu; subst hu; simp [Addr.add, cell_of_blk hb]
theorem wpList_app1 {P : Program} (w : World) {ops : Array Oper} {rest : List Oper} {o : Oper} {a : Act} {Q : Exit → Act → World → Prop} (hgd : o.guard = none) (s x : Operand) (t : TypeId)
  (ho : o.op = .call { callee := .builtin .append, args := #[s, x], argTypes := #[t, t] })
  (e bytes : Nat) (ht : P.underlying t = some (.slice e)) (hE : ElemT P e 1 bytes) {v y : Value} {xs : List Value} (hown : Own w e 1 v xs) (hv : a.eval s = v) (hx : a.eval x = .slice (some ⟨w.heap.size, 0, none⟩) 1 1) (h1 : y.oneCell' = true)
  (hb : (xs.length + 1) * bytes ≤ 140737488355328) (hb0 : 0 < bytes)
  (h : ∀ v' w', Own w' e 1 v' (xs ++ [y]) → Ext (fun k => v.ownBlock = some k) w w' → (v'.ownBlock = v.ownBlock ∨ ∃ g, v'.ownBlock = some g ∧ w.heap.size ≤ g) → wpList P ops Q rest (a.put o.dst v') w') : wpList P ops Q (o :: rest) a (w.alloc (.cells #[y] e)) :=
 wpList_app _ hgd s x t t ho e 1 bytes ht hE (hown.no ((Ext.refl _ w).alloc _)) (Src.one ht _ y e (0, 0) (blk_new w _) h1) hv hx hb hb0 fun v' w' h2 h3 h4 =>
  h v' w' h2 (((Ext.refl _ w).alloc _).trans h3) (h4.imp id fun ⟨g, h, h'⟩ => ⟨g, h, by simp at h'; omega⟩)
theorem Fresh.app {w w1 : World} {v v' : Value} (h : Fresh w v) (hs : w.heap.size ≤ w1.heap.size) (h' : v'.ownBlock = v.ownBlock ∨ ∃ g, v'.ownBlock = some g ∧ w1.heap.size ≤ g) : Fresh w v' := by
 intro g hg
 rcases h' with h' | ⟨g', h', h''⟩
 ·exact h g (h' ▸ hg)
 ·rw [h'] at hg; cases hg; omega
theorem Fresh.ext {w w1 w2 : World} {v : Value} (h : Fresh w v) (e1 : Ext NoB w w1) (e2 : Ext (fun k => v.ownBlock = some k) w1 w2) : Ext NoB w w2 :=
 e1.next e2 (fun x hx hlt => by have := h x hx; omega)
end Go.Proofs.YtgglbholbkdgfaaGreatDoor
namespace Go.Proofs.YtgglbholbkdgfaaGreatDoor
open Go.RowKit
theorem elByte : ElemT Tryz.prog 5 1 1 := ElemT.of (z := .int .u8 0) (by kernel_rfl) rfl (by decide)
theorem elInt : ElemT Tryz.prog 3 1 8 := ElemT.of (z := .int .i64 0) (by kernel_rfl) rfl (by decide)
theorem elBytes : ElemT Tryz.prog 35 1 24 := ElemT.of (z := .slice none 0 0) (by kernel_rfl) rfl (by decide)
theorem unBytes : Tryz.prog.underlying 35 = some (.slice 5) := Tryz.underlying35
theorem unInts : Tryz.prog.underlying 34 = some (.slice 3) := Tryz.underlying34
def U64 : Nat := 18446744073709551616
def uvF : Nat → Nat → List UInt8
 | 0, _ => []
 | k + 1, n => if n < 128 then [UInt8.ofNat n] else UInt8.ofNat (n % 128 + 128) :: uvF k (n / 128)
def uv (n : Nat) : List UInt8 := uvF 10 n
theorem or128_all : ∀ n : Fin 256, bits .or .u8 (n.val : Int) 128 = ((n.val % 128 + 128 : Nat) : Int) := by decide +kernel
theorem or128 (n : Nat) : bits .or .u8 ((n : Int) % 256) 128 = ((UInt8.ofNat (n % 128 + 128)).toNat : Int) := by
 have h := or128_all ⟨n % 256, Nat.mod_lt _ (by decide)⟩
 have e : ((n : Int) % 256) = ((n % 256 : Nat) : Int) := by omega
 rw [e, h]
 have e2 : n % 256 % 128 = n % 128 := by omega
 simp only [e2, UInt8.toNat_ofNat']
 omega
theorem uvF_big (k m : Nat) (h : 128 ≤ m) : uvF (k + 1) m = UInt8.ofNat (m % 128 + 128) :: uvF k (m / 128) := by
 simp only [uvF]; rw [if_neg (by omega)]
theorem uvF_small (k m : Nat) (h : m < 128) : uvF (k + 1) m = [UInt8.ofNat m] := by
 simp only [uvF]; rw [if_pos h]
theorem pow7 (k m : Nat) (h : m < 2 ^ (7 * (k + 1))) : m / 128 < 2 ^ (7 * k) := by
 rw [Nat.mul_add, Nat.pow_add] at h
 exact Nat.div_lt_of_lt_mul (by rw [Nat.mul_comm]; exact h)
set_option maxRecDepth 100000 in
set_option maxHeartbeats 400000 in
theorem Uvarint_any (n : Nat) (hn : Hid (n < U64)) (w : World) :
  Calls Tryz.prog 78 #[.int .u64 n] w fun e w' => ∃ s, e = .returned s ∧ Own w' 5 1 s (bytesV (uv n)) ∧ Fresh w s ∧ Ext NoB w w' := by
 go_enter Tryz.func78, Tryz.ntmps78
 go_wp2_with fail
 go_loopw [0, 3] (fun v b wr => ∃ (k m : Nat) (bs : List UInt8), v = .int .u64 m ∧ 1 ≤ k ∧ k ≤ 10 ∧ Hid (m < 2 ^ (7 * k)) ∧ Own wr 5 1 b (bytesV bs) ∧ Fresh w b ∧ Ext NoB w wr ∧ Hid (bs.length + k = 10 ∧ bs ++ uvF k m = uv n)) (fun v _ _ => (intOf v).toNat)
 case atStart => exact ⟨10, n, [], rfl, by omega, by omega, show _ from Nat.lt_trans hn.out (by unfold U64; decide), Own.nil _ _ _, Fresh.nil _ _ _, Ext.refl _ _, ⟨rfl, rfl⟩⟩
 case round =>
  obtain ⟨k, m, bs, rfl, hk1, hk, hm, hown, hfr, hx, H⟩ := hrel
  have hl : bs.length ≤ 10 := by have := H.out.1; omega
  by_cases hlt : 128 ≤ m
  ·go_wp2_with (at_builtin; refine wpList_app1 _ rfl (.tmp 6) (.tmp 10) 35 rfl 5 1 unBytes elByte hown rfl rfl rfl (by simp; omega) (by decide) ?_; intro v' w' hown' hx' hv')
   obtain ⟨k, rfl⟩ : ∃ j, k = j + 1 := ⟨k - 1, by omega⟩
   go_roundw
   case rel => exact ⟨k, m / 128, bs ++ [UInt8.ofNat (m % 128 + 128)], by go_num, by rcases k with _ | k; (have := pow7 0 m hm.out; simp at this; omega); omega, by omega, pow7 k m hm.out, by rw [bytesV_append]; simpa [bytesV, or128] using hown', hfr.app hx.size hv', hfr.ext hx hx', ⟨by have := H.out.1; simp; omega, by rw [← H.out.2, uvF_big k m hlt]; simp⟩⟩
   case measure => simp [intOf]; omega
  ·go_wp2_with (at_builtin; refine wpList_app1 _ rfl (.tmp 14) (.tmp 17) 35 rfl 5 1 unBytes elByte hown rfl rfl rfl (by simp; omega) (by decide) ?_; intro v' w' hown' hx' hv')
   obtain ⟨k, rfl⟩ : ∃ j, k = j + 1 := ⟨k - 1, by omega⟩
   go_ret
   exact ⟨v', rfl, by rw [← H.out.2, uvF_small k m (by omega), bytesV_append]; simpa [bytesV, Int.emod_eq_of_lt (Int.natCast_nonneg m) (show (m : Int) < 256 by omega)] using hown', hfr.app hx.size hv', hfr.ext hx hx'⟩
end Go.Proofs.YtgglbholbkdgfaaGreatDoor
namespace Go.Proofs.YtgglbholbkdgfaaGreatDoor
open Go.RowKit
def ruv : List UInt8 → Nat → Nat → Nat × Nat × Nat
 | [], _, _ => (0, 0, 2)
 | c :: t, i, v => if 128 ≤ c.toNat then (if i = 9 then (0, 0, 3) else ruv t (i + 1) (v + c.toNat % 128 * 2 ^ (7 * i)))
   else if (c.toNat = 0 ∧ 0 < i) ∨ (i = 9 ∧ 1 < c.toNat) then (0, 0, 3) else (v + c.toNat * 2 ^ (7 * i), i + 1, 0)
def ruvV (r : Nat × Nat × Nat) : Value := .tuple #[.int .u64 r.1, .int .i64 r.2.1, .int .i64 r.2.2]
theorem or_add (m y i : Nat) (hm : m < 2 ^ i) (hy : y % 2 ^ i = 0) (h1 : m < 18446744073709551616) (h2 : y < 18446744073709551616) : bits .or .u64 (m : Int) (y : Int) = ((m + y : Nat) : Int) := by
 rw [u64_or_nat m y h1 h2, Nat.or_comm, nat_join i y m hy hm, Nat.add_comm]
theorem pow7_le (k : Nat) (hk : k ≤ 9) : 2 ^ (7 * k) ≤ 9223372036854775808 := Nat.pow_le_pow_right (n := 2) (by decide) (show 7 * k ≤ 63 by omega)
theorem pow7_le8 (k : Nat) (hk : k ≤ 8) : 2 ^ (7 * k) ≤ 72057594037927936 := Nat.pow_le_pow_right (n := 2) (by decide) (show 7 * k ≤ 56 by omega)
theorem ruv_or (m x k : Nat) (hk : k ≤ 9) (hm : m < 2 ^ (7 * k)) (hx : x < 128) (hx9 : k = 9 → x ≤ 1) : bits .or .u64 (m : Int) (IntKind.u64.wrap ((x : Int) * 2 ^ (7 * k))) = ((m + x * 2 ^ (7 * k) : Nat) : Int) := by
 have hb : x * 2 ^ (7 * k) < 18446744073709551616 := by
  by_cases h : k = 9
  ·subst h; have := hx9 rfl; simp; omega
  ·have h1 := pow7_le8 k (by omega)
   have := Nat.mul_le_mul (show x ≤ 127 by omega) h1
   omega
 have e : (x : Int) * 2 ^ (7 * k) = ((x * 2 ^ (7 * k) : Nat) : Int) := by simp
 rw [e, IntKind.wrap_u64]
 have e2 : ((x * 2 ^ (7 * k) : Nat) : Int) % 18446744073709551616 = ((x * 2 ^ (7 * k) : Nat) : Int) := by omega
 rw [e2]
 exact or_add m _ (7 * k) hm (Nat.mul_mod_left _ _) (by have := pow7_le k hk; omega) hb
theorem and127 (x : Nat) (hx : x < 256) : IntKind.u64.wrap (bits .and .u8 (x : Int) 127) = ((x % 128 : Nat) : Int) := by
 have := u8_and_nat x 127 hx (by decide)
 rw [show ((127 : Nat) : Int) = 127 from rfl] at this
 rw [this, nat_mask7, IntKind.wrap_u64]
 omega
theorem ruv_step (m x k : Nat) (hk : k ≤ 8) (hm : m < 2 ^ (7 * k)) (hx : x < 256) :
  bits .or .u64 (m : Int) (IntKind.u64.wrap (IntKind.u64.wrap (bits .and .u8 (x : Int) 127) * 2 ^ (7 * k))) = ((m + x % 128 * 2 ^ (7 * k) : Nat) : Int) := by
 rw [and127 x hx]
 exact ruv_or m (x % 128) k (by omega) hm (by omega) (by omega)
theorem ruv_lt (m x k : Nat) (hm : m < 2 ^ (7 * k)) : m + x % 128 * 2 ^ (7 * k) < 2 ^ (7 * (k + 1)) := by
 have h1 : x % 128 ≤ 127 := by omega
 have := Nat.mul_le_mul_right (2 ^ (7 * k)) h1
 have e : 2 ^ (7 * (k + 1)) = 128 * 2 ^ (7 * k) := by rw [Nat.mul_add, Nat.pow_add]; omega
 omega
theorem ret3 {k1 k2 k3 : IntKind} {a b c a' b' c' : Int} (h1 : a = a') (h2 : b = b') (h3 : c = c') : Ending.returned (.tuple #[.int k1 a, .int k2 b, .int k3 c]) = Ending.returned (.tuple #[.int k1 a', .int k2 b', .int k3 c']) := by rw [h1, h2, h3]
theorem drop_cons (l : List UInt8) (i : Nat) (h : i < l.length) : l.drop i = l[i] :: l.drop (i + 1) := List.drop_eq_getElem_cons h
set_option maxRecDepth 100000 in
set_option maxHeartbeats 400000 in
theorem ReadUvarint_any (s : Value) (l : List UInt8) (w : World) (hs : RdB w s l) (hlen : l.length < 1000000000000) :
  Calls Tryz.prog 71 #[s] w fun e w' => e = .returned (ruvV (ruv l 0 0)) ∧ w = w' := by
 obtain ⟨a, n, c, rfl, hl, hn, hc, hsp, hr⟩ := hs
 have hl' : n = l.length := by simpa using hl.symm
 subst hl'
 go_enter Tryz.func71, Tryz.ntmps71
 go_wp2_with fail
 go_loop [5, 10] (fun v i => ∃ (k m : Nat), i = .int .i64 k ∧ v = .int .u64 m ∧ k ≤ 9 ∧ k ≤ l.length ∧ Hid (m < 2 ^ (7 * k)) ∧ Hid (ruv (l.drop k) k m = ruv l 0 0)) (fun _ i => l.length - (intOf i).toNat)
 case atStart => exact ⟨0, 0, rfl, rfl, by omega, by omega, (show 0 < 2 ^ (7 * 0) by decide), rfl⟩
 case round =>
  obtain ⟨k, m, rfl, rfl, hk, hkl, hm, H⟩ := hrel
  by_cases hlt : k < l.length
  ·obtain ⟨b, off, rfl, hcell⟩ := hr (by intro h; simp [bytesV] at h; simp [h] at hlt)
   have hck : w.cell? ⟨b, off + k, none⟩ = some (.int .u8 l[k].toNat) := hcell k _ (by simp [bytesV, hlt])
   have H2 := Lib.hid (drop_cons l k hlt)
   obtain ⟨x, hx⟩ : ∃ x, l[k] = x := ⟨_, rfl⟩
   rw [hx] at hck
   have Hx := Lib.hid hx
   clear hx hr hcell
   have hx256 : x.toNat < 256 := x.toNat_lt
   by_cases hbig : 128 ≤ x.toNat
   ·by_cases h9 : k = 9
    ·subst h9
     go_wp2_with fail
     go_ret3
     exact ⟨by rw [← H.out, H2.out, ruv, Hx.out, if_pos hbig, if_pos rfl]; rfl, rfl⟩
    ·have h9' : ((k : Int) == 9) = false := beq_eq_false_iff_ne.2 (by omega)
     go_wp2_with fail
     go_round
     case rel => exact ⟨k + 1, m + x.toNat % 128 * 2 ^ (7 * k), by go_num, by rw [ruv_step m x.toNat k (by omega) hm.out hx256], by omega, by omega, ruv_lt m x.toNat k hm.out, Lib.hid (by rw [← H.out, H2.out, ruv, Hx.out, if_pos hbig, if_neg h9])⟩
     case measure => simp [intOf]; omega
   ·have hsm : (x.toNat : Int) < 128 := by omega
    by_cases h0 : x.toNat = 0
    ·have h0' : ((x.toNat : Int) == 0) = true := beq_iff_eq.2 (by omega)
     by_cases hk0 : 0 < k
     ·go_wp2_with fail
      go_ret3
      exact ⟨by rw [← H.out, H2.out, ruv, Hx.out, if_neg hbig, if_pos (.inl ⟨h0, hk0⟩)]; rfl, rfl⟩
     ·obtain rfl : k = 0 := by omega
      simp only [Nat.add_zero] at hck
      go_wp2_with fail
      go_ret3
      have hf : ¬((x.toNat = 0 ∧ 0 < 0) ∨ (0 = 9 ∧ 1 < x.toNat)) := by omega
      refine ⟨?_, rfl⟩
      rw [← H.out, H2.out, ruv, Hx.out, if_neg hbig, if_neg hf]
      refine ret3 ?_ rfl rfl
      have := ruv_or m 0 0 (by omega) hm.out (by omega) (by omega)
      simpa [h0, IntKind.wrap_u64] using this
    ·have h0' : ((x.toNat : Int) == 0) = false := beq_eq_false_iff_ne.2 (by omega)
     by_cases h9 : k = 9
     ·subst h9
      by_cases h1 : 1 < x.toNat
      ·go_wp2_with fail
       go_ret3
       exact ⟨by rw [← H.out, H2.out, ruv, Hx.out, if_neg hbig, if_pos (.inr ⟨rfl, h1⟩)]; rfl, rfl⟩
      ·go_wp2_with fail
       go_ret3
       have hf : ¬((x.toNat = 0 ∧ 0 < 9) ∨ (9 = 9 ∧ 1 < x.toNat)) := by omega
       refine ⟨?_, rfl⟩
       rw [← H.out, H2.out, ruv, Hx.out, if_neg hbig, if_neg hf]
       refine ret3 ?_ rfl rfl
       have := ruv_or m x.toNat 9 (by omega) hm.out (by omega) (by omega)
       rw [← this, IntKind.wrap_u64]
       congr 1
       simp; omega
     ·have h9' : ((k : Int) == 9) = false := beq_eq_false_iff_ne.2 (by omega)
      go_wp2_with fail
      go_ret3
      have hf : ¬((x.toNat = 0 ∧ 0 < k) ∨ (k = 9 ∧ 1 < x.toNat)) := by omega
      refine ⟨?_, rfl⟩
      rw [← H.out, H2.out, ruv, Hx.out, if_neg hbig, if_neg hf]
      refine ret3 ?_ (by simp) rfl
      have := ruv_or m x.toNat k (by omega) hm.out (by omega) (by omega)
      simpa using this
  ·obtain rfl : k = l.length := by omega
   go_wp2_with fail
   go_ret3
   exact ⟨by rw [← H.out, List.drop_length, ruv]; rfl, rfl⟩
end Go.Proofs.YtgglbholbkdgfaaGreatDoor
namespace Go.Proofs.YtgglbholbkdgfaaGreatDoor
open Go.RowKit
def be : Nat → Nat → List UInt8
 | 0, _ => []
 | k + 1, v => UInt8.ofNat (v / 2 ^ (8 * k) % 256) :: be k v
def beV (l : List UInt8) : Nat := l.foldl (fun a c => a * 256 + c.toNat) 0
theorem eqNilBytes (w : World) (a : Option Addr) (n c n' c' : Nat) : (binOp .eql 35 (.slice a n c) (.slice none n' c')).run Tryz.prog w = .ok (.bool a.isNone) w :=
 Lib.run_eql_slice_nil w _ _ a n c n' c' unBytes
theorem eqNilInts (w : World) (a : Option Addr) (n c n' c' : Nat) : (binOp .eql 34 (.slice a n c) (.slice none n' c')).run Tryz.prog w = .ok (.bool a.isNone) w :=
 Lib.run_eql_slice_nil w _ _ a n c n' c' unInts
theorem Own.empty (w : World) (e : Nat) : Own (w.alloc (.cells #[] e)) e 1 (.slice (some ⟨w.heap.size, 0, none⟩) 0 0) [] :=
 .inr ⟨w.heap.size, 0, 0, #[], rfl, blk_new w _, Nat.le_refl _, by simp, by unfold maxLen; omega, rfl, rfl⟩
set_option maxRecDepth 100000 in
set_option maxHeartbeats 400000 in
theorem bytesClone_any (s : Value) (l : List UInt8) (w : World) (hs : RdB w s l) (hlen : l.length ≤ 70368744177664) :
  Calls Tryz.prog 76 #[s] w fun e w' => ∃ v, e = .returned v ∧ Own w' 5 1 v (bytesV l) ∧ Fresh w v ∧ Ext NoB w w' := by
 have hs0 := hs
 obtain ⟨a, n, c, rfl, hl, hn, hc, hsp, hr⟩ := hs
 have hq := eqNilBytes
 rcases a with _ | p
 ·have hl0 : bytesV l = [] := by
   rcases hb : bytesV l with _ | ⟨x, xs⟩
   ·rfl
   ·obtain ⟨_, _, h, _⟩ := hr (by rw [hb]; simp); cases h
  have Hl0 := Lib.hid hl0
  clear hl0 hs0 hr hsp hl
  go_enter Tryz.func76, Tryz.ntmps76
  go_wp2_with fail
  go_ret
  exact ⟨_, rfl, by rw [Hl0.out]; exact .inl ⟨rfl, rfl⟩, Fresh.nil _ _ _, Ext.refl _ _⟩
 ·have hsrc := Rd.src (P := Tryz.prog) unBytes (hs0.no ((Ext.refl _ w).alloc (.cells #[] 5))) (bytesV_one l) (by decide)
  have Hs := Lib.hid hsrc
  clear hsrc hs0 hr hsp hl
  go_enter Tryz.func76, Tryz.ntmps76
  go_wp2_with (at_builtin; refine wpList_app _ rfl (.tmp 5) (.tmp 6) 35 35 rfl 5 1 1 unBytes elByte (Own.empty w _) Hs.out rfl rfl (by simp; omega) (by decide) ?_; intro v' w' hown' hx' hv')
  go_ret
  exact ⟨v', rfl, by simpa using hown', (Fresh.new w 0 none 0 0).app (by simp) hv', (Fresh.new w 0 none 0 0).ext ((Ext.refl _ w).alloc _) hx'⟩
set_option maxRecDepth 100000 in
set_option maxHeartbeats 400000 in
theorem put4_any (n : Nat) (w : World) :
  Calls Tryz.prog 145 #[.int .u64 n, .int .u64 4] w fun e w' => ∃ v, e = .returned v ∧ Own w' 5 1 v (bytesV (be 4 n)) ∧ Fresh w v ∧ Ext NoB w w' := by
 have hmk : ∀ w, (Instr.makeSlice 35 (.int .i64 0) (.int .u64 4)).run Tryz.prog w = .ok (.slice (some ⟨w.heap.size, 0, none⟩) 0 4) (w.alloc (.cells #[.int .u8 0, .int .u8 0, .int .u8 0, .int .u8 0] 5)) := fun _ => by kernel_rfl
 go_enter Tryz.func145, Tryz.ntmps145
 go_wp2_with fail
 go_loopw [5, 6] (fun b sh wr => ∃ (j : Nat) (bs : List UInt8), sh = .int .u64 (8 * j : Nat) ∧ j ≤ 4 ∧ Own wr 5 1 b (bytesV bs) ∧ Fresh w b ∧ Ext NoB w wr ∧ Hid (bs.length + j = 4 ∧ bs ++ be j n = be 4 n)) (fun _ sh _ => (intOf sh).toNat)
 case atStart => exact ⟨4, [], rfl, by omega, .inr ⟨w.heap.size, 0, 4, _, rfl, blk_new w _, by omega, by decide, by unfold maxLen; omega, rfl, rfl⟩, Fresh.new w 0 none 0 4, (Ext.refl _ w).alloc _, ⟨rfl, rfl⟩⟩
 case round =>
  obtain ⟨j, bs, rfl, hj, hown, hfr, hx, H⟩ := hrel
  by_cases h0 : 0 < j
  ·obtain ⟨j, rfl⟩ : ∃ i, j = i + 1 := ⟨j - 1, by omega⟩
   have hbl : bs.length ≤ 4 := by have := H.out.1; omega
   go_wp2_with (at_builtin; refine wpList_app1 _ rfl (.tmp 15) (.tmp 20) 35 rfl 5 1 unBytes elByte hown rfl rfl rfl (by simp; omega) (by decide) ?_; intro v' w' hown' hx' hv')
   have e1 : 8 * (j + 1) - 8 = 8 * j := by omega
   rw [e1] at hown'
   go_roundw
   case rel => exact ⟨j, bs ++ [UInt8.ofNat (n / 2 ^ (8 * j) % 256)], by congr 1; simp; omega, by omega, by rw [bytesV_append]; simpa [bytesV] using hown', hfr.app hx.size hv', hfr.ext hx hx', ⟨by have := H.out.1; simp; omega, by rw [← H.out.2, be]; simp⟩⟩
   case measure => simp [intOf]; omega
  ·obtain rfl : j = 0 := by omega
   go_wp2_with fail
   go_ret
   exact ⟨_, rfl, by have h2 := H.out.2; rw [be, List.append_nil] at h2; rw [← h2]; exact hown, hfr, hx⟩
set_option maxRecDepth 100000 in
set_option maxHeartbeats 400000 in
theorem Put32_any (n : Nat) (hn : n < 4294967296) (w : World) :
  Calls Tryz.prog 130 #[.int .u32 n] w fun e w' => ∃ v, e = .returned v ∧ Own w' 5 1 v (bytesV (be 4 n)) ∧ Fresh w v ∧ Ext NoB w w' := by
 go_enter Tryz.func130, Tryz.ntmps130
 go_wp2_with (go_at_call 145; refine (put4_any _ _).mono ?_; rintro e w' ⟨v, rfl, h1, h2, h3⟩)
 go_ret
 exact ⟨v, rfl, h1, h2, h3⟩
theorem or256 (m c : Nat) (hm : m < 16777216) (hc : c < 256) : bits .or .u64 ((m : Int) * 256) (c : Int) = ((m * 256 + c : Nat) : Int) := by
 have e : (m : Int) * 256 = ((m * 256 : Nat) : Int) := by omega
 rw [e, u64_or_nat _ _ (by omega) (by omega), nat_join 8 (m * 256) c (by omega) (by omega)]
theorem beV_snoc (l : List UInt8) (c : UInt8) : beV (l ++ [c]) = beV l * 256 + c.toNat := by simp [beV]
theorem beV_lt (l : List UInt8) : ∀ k, l.length ≤ k → beV l < 256 ^ k := by
 intro k hk
 have : ∀ (l : List UInt8) (a : Nat), l.foldl (fun a c => a * 256 + c.toNat) a < (a + 1) * 256 ^ l.length := by
  intro l
  induction l with
  | nil => intro a; simp
  | cons x xs ih =>
   intro a
   have := ih (a * 256 + x.toNat)
   have hx := x.toNat_lt
   simp only [List.foldl_cons, List.length_cons, Nat.pow_succ]
   refine Nat.lt_of_lt_of_le this ?_
   rw [← Nat.mul_assoc, Nat.mul_right_comm]
   exact Nat.mul_le_mul_right _ (by omega)
 have h := this l 0
 simp only [Nat.zero_add, Nat.one_mul] at h
 exact Nat.lt_of_lt_of_le h (Nat.pow_le_pow_right (by decide) hk)
set_option maxRecDepth 100000 in
set_option maxHeartbeats 400000 in
theorem get4_any (s : Value) (l : List UInt8) (w : World) (hs : RdB w s l) (hlen : l.length < 1000000000000) :
  Calls Tryz.prog 124 #[s, .int .i64 4] w fun e w' => e = .returned (if 4 ≤ l.length then .tuple #[.int .u64 (beV (l.take 4)), .int .i64 0] else .tuple #[.int .u64 0, .int .i64 2]) ∧ w = w' := by
 obtain ⟨a, n, c, rfl, hl, hn, hc, hsp, hr⟩ := hs
 have hl' : n = l.length := by simpa using hl.symm
 subst hl'
 clear hl
 by_cases h4 : 4 ≤ l.length
 ·obtain ⟨b, off, rfl, hcell⟩ := hr (by intro h; simp [bytesV] at h; simp [h] at h4)
  have H4 : Hid ((if 4 ≤ l.length then Value.tuple #[.int .u64 (beV (l.take 4)), .int .i64 0] else .tuple #[.int .u64 0, .int .i64 2]) = .tuple #[.int .u64 (beV (l.take 4)), .int .i64 0]) := if_pos h4
  rw [H4.out]
  have HC := Lib.hid hcell
  clear hcell hr hsp
  go_enter Tryz.func124, Tryz.ntmps124
  go_wp2_with fail
  go_loop [6, 17] (fun v i => ∃ (k : Nat), i = .int .i64 k ∧ v = .int .u64 (beV (l.take k)) ∧ k ≤ 4) (fun _ i => 4 - (intOf i).toNat)
  case atStart => exact ⟨0, rfl, rfl, by omega⟩
  case round =>
   obtain ⟨k, rfl, rfl, hk⟩ := hrel
   by_cases hlt : k < 4
   ·have hck : w.cell? ⟨b, off + k, none⟩ = some (.int .u8 (l[k]'(by omega)).toNat) := HC.out k _ (by simp [bytesV, show k < l.length by omega])
    have hb := beV_lt (l.take k) 3 (by simp; omega)
    have hsn : l.take (k + 1) = l.take k ++ [l[k]'(by omega)] := by rw [List.take_succ_eq_append_getElem (by omega)]
    obtain ⟨m, hm⟩ : ∃ m, beV (l.take k) = m := ⟨_, rfl⟩
    obtain ⟨x, hx⟩ : ∃ x, l[k]'(by omega) = x := ⟨_, rfl⟩
    rw [hx] at hck hsn
    rw [hm] at hb ⊢
    have Hm := Lib.hid hm
    have Hsn := Lib.hid hsn
    have hx256 := x.toNat_lt
    have hor := Lib.hid (or256 m x.toNat (by simpa using hb) hx256)
    clear hm hsn hx
    go_wp2_with fail
    go_round
    case rel => exact ⟨k + 1, by go_num, by rw [Hsn.out, beV_snoc, Hm.out, hor.out], by omega⟩
    case measure => simp [intOf]; omega
   ·obtain rfl : k = 4 := by omega
    go_wp2_with fail
    go_ret2
    exact ⟨rfl, rfl⟩
 ·rw [if_neg h4]
  go_enter Tryz.func124, Tryz.ntmps124
  go_wp2_with fail
  go_ret2
  exact ⟨rfl, rfl⟩
theorem be_length (k n : Nat) : (be k n).length = k := by induction k with
 | zero => rfl
 | succ k ih => simp [be, ih]
theorem beV_be4 (n : Nat) (hn : n < 4294967296) : beV (be 4 n) = n := by
 simp only [beV, be, List.foldl_cons, List.foldl_nil, UInt8.toNat_ofNat']
 omega
set_option maxRecDepth 100000 in
set_option maxHeartbeats 400000 in
theorem Get32_any (s : Value) (l : List UInt8) (w : World) (hs : RdB w s l) (hlen : l.length < 1000000000000) :
  Calls Tryz.prog 97 #[s] w fun e w' => e = .returned (if 4 ≤ l.length then .tuple #[.int .u32 (beV (l.take 4)), .int .i64 0] else .tuple #[.int .u32 0, .int .i64 2]) ∧ w = w' := by
 have hc := Lib.hid (get4_any s l w hs hlen)
 by_cases h4 : 4 ≤ l.length
 ·have hb := beV_lt (l.take 4) 4 (by simp; omega)
  rw [if_pos h4] at hc ⊢
  obtain ⟨m, hm⟩ : ∃ m, beV (l.take 4) = m := ⟨_, rfl⟩
  rw [hm] at hb hc ⊢
  have hb' : m < 4294967296 := by simpa using hb
  clear hm hb
  go_enter Tryz.func97, Tryz.ntmps97
  go_wp2_with (go_at_call 124; refine hc.out.mono ?_; rintro e w' ⟨rfl, rfl⟩)
  go_ret2
  exact ⟨rfl, rfl⟩
 ·rw [if_neg h4] at hc ⊢
  go_enter Tryz.func97, Tryz.ntmps97
  go_wp2_with (go_at_call 124; refine hc.out.mono ?_; rintro e w' ⟨rfl, rfl⟩)
  go_ret2
  exact ⟨rfl, rfl⟩
set_option maxRecDepth 100000 in
set_option maxHeartbeats 400000 in
theorem cloneInts_any (s : Value) (l : List Int) (w : World) (hs : Rd w 1 s (intsV l)) (hlen : l.length ≤ 8796093022208) :
  Calls Tryz.prog 135 #[s] w fun e w' => ∃ v, e = .returned v ∧ Own w' 3 1 v (intsV l) ∧ Fresh w v ∧ Ext NoB w w' := by
 have hs0 := hs
 obtain ⟨a, n, c, rfl, hl, hn, hc, hsp, hr⟩ := hs
 have hq := eqNilInts
 rcases a with _ | p
 ·have hl0 : intsV l = [] := by
   rcases hb : intsV l with _ | ⟨x, xs⟩
   ·rfl
   ·obtain ⟨_, _, h, _⟩ := hr (by rw [hb]; simp); cases h
  have Hl0 := Lib.hid hl0
  clear hl0 hs0 hr hsp hl
  go_enter Tryz.func135, Tryz.ntmps135
  go_wp2_with fail
  go_ret
  exact ⟨_, rfl, by rw [Hl0.out]; exact .inl ⟨rfl, rfl⟩, Fresh.nil _ _ _, Ext.refl _ _⟩
 ·have hsrc := Rd.src (P := Tryz.prog) unInts (hs0.no ((Ext.refl _ w).alloc (.cells #[] 3))) (intsV_one l) (by decide)
  have Hs := Lib.hid hsrc
  clear hsrc hs0 hr hsp hl
  go_enter Tryz.func135, Tryz.ntmps135
  go_wp2_with (at_builtin; refine wpList_app _ rfl (.tmp 5) (.tmp 6) 34 34 rfl 3 1 8 unInts elInt (Own.empty w _) Hs.out rfl rfl (by simp; omega) (by decide) ?_; intro v' w' hown' hx' hv')
  go_ret
  exact ⟨v', rfl, by simpa using hown', (Fresh.new w 0 none 0 0).app (by simp) hv', (Fresh.new w 0 none 0 0).ext ((Ext.refl _ w).alloc _) hx'⟩
theorem cloneBytes_any (s : Value) (l : List UInt8) (w : World) (hs : RdB w s l) (hlen : l.length ≤ 70368744177664) :
  Calls Tryz.prog 67 #[s] w fun e w' => ∃ v, e = .returned v ∧ Own w' 5 1 v (bytesV l) ∧ Fresh w v ∧ Ext NoB w w' := by
 have hs0 := hs
 obtain ⟨a, n, c, rfl, hl, hn, hc, hsp, hr⟩ := hs
 have hq := eqNilBytes
 rcases a with _ | p
 ·have hl0 : bytesV l = [] := by
   rcases hb : bytesV l with _ | ⟨x, xs⟩
   ·rfl
   ·obtain ⟨_, _, h, _⟩ := hr (by rw [hb]; simp); cases h
  have Hl0 := Lib.hid hl0
  clear hl0 hs0 hr hsp hl
  go_enter Tryz.func67, Tryz.ntmps67
  go_wp2_with fail
  go_ret
  exact ⟨_, rfl, by rw [Hl0.out]; exact .inl ⟨rfl, rfl⟩, Fresh.nil _ _ _, Ext.refl _ _⟩
 ·have hsrc := Rd.src (P := Tryz.prog) unBytes (hs0.no ((Ext.refl _ w).alloc (.cells #[] 5))) (bytesV_one l) (by decide)
  have Hs := Lib.hid hsrc
  clear hsrc hs0 hr hsp hl
  go_enter Tryz.func67, Tryz.ntmps67
  go_wp2_with (at_builtin; refine wpList_app _ rfl (.tmp 5) (.tmp 6) 35 35 rfl 5 1 1 unBytes elByte (Own.empty w _) Hs.out rfl rfl (by simp; omega) (by decide) ?_; intro v' w' hown' hx' hv')
  go_ret
  exact ⟨v', rfl, by simpa using hown', (Fresh.new w 0 none 0 0).app (by simp) hv', (Fresh.new w 0 none 0 0).ext ((Ext.refl _ w).alloc _) hx'⟩
end Go.Proofs.YtgglbholbkdgfaaGreatDoor
namespace Go.Proofs.YtgglbholbkdgfaaGreatDoor
open Go.RowKit
def half1 (n : Nat) : Nat := n / 2 ^^^ (3988292384 &&& ((4294967296 - n % 2) % 4294967296))
def tab (i : Nat) : Nat := half1 (half1 (half1 (half1 i)))
def crcStep (v : Nat) (c : UInt8) : Nat :=
 let a := v ^^^ c.toNat
 let b := a / 16 ^^^ tab (a % 16)
 b / 16 ^^^ tab (b % 16)
def crc (l : List UInt8) : Nat := 4294967295 ^^^ l.foldl crcStep 4294967295
theorem xor_lt32 {a b : Nat} (ha : a < 4294967296) (hb : b < 4294967296) : a ^^^ b < 4294967296 := Nat.xor_lt_two_pow (n := 32) ha hb
theorem and_lt32 {a b : Nat} (ha : a < 4294967296) : a &&& b < 4294967296 := Nat.lt_of_le_of_lt Nat.and_le_left ha
theorem half1_lt (n : Nat) (h : n < 4294967296) : half1 n < 4294967296 := xor_lt32 (by omega) (and_lt32 (by decide))
theorem tab_lt (n : Nat) (h : n < 4294967296) : tab n < 4294967296 := half1_lt _ (half1_lt _ (half1_lt _ (half1_lt _ h)))
theorem crcStep_lt (v : Nat) (c : UInt8) (h : v < 4294967296) : crcStep v c < 4294967296 := by
 have hc := c.toNat_lt
 have h1 : v ^^^ c.toNat < 4294967296 := xor_lt32 h (by omega)
 have h2 : (v ^^^ c.toNat) / 16 ^^^ tab ((v ^^^ c.toNat) % 16) < 4294967296 := xor_lt32 (by omega) (tab_lt _ (by omega))
 exact xor_lt32 (by omega) (tab_lt _ (by omega))
theorem crcFold_lt (l : List UInt8) : ∀ v, v < 4294967296 → l.foldl crcStep v < 4294967296 := by
 induction l with
 | nil => intro v h; exact h
 | cons c l ih => intro v h; exact ih _ (crcStep_lt v c h)
theorem crc_lt (l : List UInt8) : crc l < 4294967296 := xor_lt32 (by decide) (crcFold_lt l _ (by decide))
theorem half1_walk (n : Nat) (h : n < 4294967296) :
  bits .xor .u32 ((n : Int) / 2) (bits .and .u32 3988292384 (-(bits .and .u32 (n : Int) 1) % 4294967296)) = ((half1 n : Nat) : Int) := by
 have h1 : bits .and .u32 (n : Int) 1 = ((n % 2 : Nat) : Int) := by
  have := u32_and_nat n 1 h (by decide)
  rw [nat_mask1] at this; exact this
 have h2 : (-((n % 2 : Nat) : Int)) % 4294967296 = (((4294967296 - n % 2) % 4294967296 : Nat) : Int) := by omega
 have h3 := u32_and_nat 3988292384 ((4294967296 - n % 2) % 4294967296) (by decide) (Nat.mod_lt _ (by decide))
 have h4 := u32_xor_nat (n / 2) (3988292384 &&& ((4294967296 - n % 2) % 4294967296)) (by omega) (and_lt32 (by decide))
 rw [h1, h2]
 unfold half1
 rw [← h4]
 congr 1
set_option maxRecDepth 100000 in
set_option maxHeartbeats 400000 in
theorem half_any (n : Nat) (h : n < 4294967296) (w : World) :
  Calls Tryz.prog 136 #[.int .u32 n] w fun e w' => e = .returned (.int .u32 (tab n)) ∧ w = w' := by
 go_enter Tryz.func136, Tryz.ntmps136
 go_wp2_with fail
 go_loop [0, 3] (fun v i => ∃ (k m : Nat), i = .int .i64 k ∧ v = .int .u32 m ∧ k ≤ 4 ∧ m < 4294967296 ∧ Hid (Nat.rec m (fun _ x => half1 x) (4 - k) = tab n)) (fun _ i => 4 - (intOf i).toNat)
 case atStart => exact ⟨0, n, rfl, rfl, by omega, h, rfl⟩
 case round =>
  obtain ⟨k, m, rfl, rfl, hk, hm, H⟩ := hrel
  by_cases hlt : k < 4
  ·have hw := Lib.hid (half1_walk m hm)
   go_wp2_with fail
   go_round
   case rel => exact ⟨k + 1, half1 m, by go_num, by rw [hw.out], by omega, half1_lt m hm, Lib.hid (by rw [← H.out]; rcases k with _ | _ | _ | _ | k; rfl; rfl; rfl; rfl; omega)⟩
   case measure => simp [intOf]; omega
  ·obtain rfl : k = 4 := by omega
   go_wp2_with fail
   go_ret
   exact ⟨by have h2 : m = tab n := H.out; rw [← h2]; rfl, rfl⟩
def tabV (k : Nat) : Array Value := ((List.range 16).map fun i => Value.int .u32 ((if i < k then tab i else 0 : Nat) : Int)).toArray
theorem tabV_set (k : Nat) (hk : k < 16) : (tabV k).setIfInBounds k (.int .u32 (tab k : Nat)) = tabV (k + 1) := by
 unfold tabV
 apply Array.ext
 ·simp
 ·intro i h1 h2
  rw [Array.getElem_setIfInBounds (by simpa using h2)]
  by_cases h : k = i
  ·subst h; simp
  ·rw [if_neg h]
   simp only [List.getElem_toArray, List.getElem_map, List.getElem_range]
   congr 2
   by_cases h' : i < k
   ·rw [if_pos h', if_pos (by omega)]
   ·rw [if_neg h', if_neg (by omega)]
set_option maxRecDepth 100000 in
set_option maxHeartbeats 400000 in
theorem halves_any (w : World) :
  Calls Tryz.prog 125 #[] w fun e w' => e = .returned (.agg (tabV 16)) ∧ Ext NoB w w' := by
 go_enter Tryz.func125, Tryz.ntmps125
 go_wp2_with fail
 go_loopw [2] (fun i wr => ∃ (k : Nat), i = .int .i64 k ∧ k ≤ 16 ∧ wr.heap[w.heap.size]? = some (.cells (tabV k) 187 (0, 0)) ∧ Ext NoB w wr) (fun i _ => 16 - (intOf i).toNat)
 case atStart => exact ⟨0, rfl, by omega, blk_new w _, (Ext.refl _ w).alloc _⟩
 case round =>
  obtain ⟨k, rfl, hk, hb, hx⟩ := hrel
  by_cases hlt : k < 16
  ·have hc : wr.cell? ⟨w.heap.size, k, none⟩ = some (.int .u32 0) := by rw [cell_of_blk hb]; simp [tabV, hlt]
   have hf : wr.frozen? ⟨w.heap.size, k, none⟩ = false := frozen_of_blk hb k
   have HB := Lib.hid hb
   clear hb
   go_wp2_with (go_at_call 136; refine (half_any _ (by omega) _).mono ?_; rintro e w' ⟨rfl, rfl⟩)
   go_roundw
   case rel => exact ⟨k + 1, by go_num, by omega, by rw [blk_setCell HB.out, tabV_set k hlt], hx.setCell (.inr (Nat.le_refl _)) _⟩
   case measure => simp [intOf]; omega
  ·obtain rfl : k = 16 := by omega
   have HB := Lib.hid hb
   clear hb
   go_wp2_with (first | (refine wpList_load_row rfl 187 (.tmp 0) rfl _ rfl _ _ _ _ HB.out Tryz.underlying187 rfl (by kernel_rfl) ?_) | (refine wpList_store_row rfl 187 (.tmp 0) (.tmp 11) rfl _ (tabV 16) rfl rfl _ _ HB.out (by kernel_rfl) (by kernel_rfl) (by kernel_rfl) ?_))
   (try simp only [Exit.inBlock, Exit.then])
   refine bodyPost_ret (results_cell_row rfl _ _ w.heap.size _ (tabV 16) _ _ rfl (setRow_heap _ _ _ _ _ _ HB.out) Tryz.underlying187 rfl (by kernel_rfl)) rfl ⟨rfl, hx.setRow (.inr (Nat.le_refl _)) _⟩
theorem xor_walk (a b : Nat) (ha : a < 4294967296) (hb : b < 4294967296) : bits .xor .u32 (a : Int) (b : Int) = ((a ^^^ b : Nat) : Int) := u32_xor_nat a b ha hb
theorem and15_walk (a : Nat) (ha : a < 4294967296) : bits .and .u32 (a : Int) 15 = ((a % 16 : Nat) : Int) := by
 have := u32_and_nat a 15 ha (by decide)
 rw [nat_mask4] at this; exact this
theorem tabV_get (i : Nat) (h : i < 16) : (tabV 16)[i]? = some (.int .u32 (tab i : Nat)) := by simp [tabV, h]
set_option maxRecDepth 100000 in
set_option maxHeartbeats 400000 in
theorem Sum_any (s : Value) (l : List UInt8) (w : World) (hs : RdB w s l) (hlen : l.length < 1000000000000) :
  Calls Tryz.prog 98 #[s] w fun e w' => e = .returned (.int .u32 (crc l)) ∧ Ext NoB w w' := by
 obtain ⟨a, n, c, rfl, hl, hn, hc, hsp, hr⟩ := hs
 have hl' : n = l.length := by simpa using hl.symm
 subst hl'
 clear hl
 have HR := Lib.hid hr
 clear hr hsp
 go_enter Tryz.func98, Tryz.ntmps98
 go_wp2_with (first | (go_at_call 125; refine (halves_any _).mono ?_; rintro e w1 ⟨rfl, hx1⟩) | (refine wpList_store_row rfl 187 (.tmp 3) (.tmp 7) rfl _ (tabV 16) rfl rfl _ _ (blk_new w1 _) (by kernel_rfl) (by kernel_rfl) (by kernel_rfl) ?_))
 generalize hW : World.setRow _ _ _ = W
 have HT : Hid (W.heap[w1.heap.size]? = some (.cells (tabV 16) 187 (0, 0))) := by rw [← hW]; exact setRow_heap _ _ _ _ _ _ (blk_new w1 _)
 have hx : Ext NoB w W := by rw [← hW]; exact (hx1.alloc _).setRow (.inr hx1.size) _
 clear hW
 obtain ⟨g, hg⟩ : ∃ g, w1.heap.size = g := ⟨_, rfl⟩
 rw [hg] at HT ⊢
 clear hg
 go_loop [4, 10] (fun v i => ∃ (k m : Nat), i = .int .i64 k ∧ v = .int .u32 m ∧ k ≤ l.length ∧ m < 4294967296 ∧ Hid ((l.drop k).foldl crcStep m = l.foldl crcStep 4294967295)) (fun _ i => l.length - (intOf i).toNat)
 case atStart => exact ⟨0, 4294967295, rfl, rfl, by omega, by omega, rfl⟩
 case round =>
  obtain ⟨k, v, rfl, rfl, hk, hv, H⟩ := hrel
  by_cases hlt : k < l.length
  ·obtain ⟨b, off, rfl, hcell⟩ := HR.out (by intro h; simp [bytesV] at h; simp [h] at hlt)
   have hck : W.cell? ⟨b, off + k, none⟩ = some (.int .u8 l[k].toNat) := hx.cell (hcell k _ (by simp [bytesV, hlt])) (fun h => h)
   have H2 := Lib.hid (drop_cons l k hlt)
   obtain ⟨x, hx'⟩ : ∃ x, l[k] = x := ⟨_, rfl⟩
   rw [hx'] at hck
   have Hx := Lib.hid hx'
   clear hx' hcell
   have hx256 := x.toNat_lt
   obtain ⟨a0, ha0⟩ : ∃ a, v ^^^ x.toNat = a := ⟨_, rfl⟩
   have hal : a0 < 4294967296 := by rw [← ha0]; exact xor_lt32 hv (by omega)
   have e1 := xor_walk v x.toNat hv (by omega)
   rw [ha0] at e1
   obtain ⟨i0, hi0⟩ : ∃ i, a0 % 16 = i := ⟨_, rfl⟩
   have hil : i0 < 16 := by omega
   have e2 := and15_walk a0 hal
   rw [hi0] at e2
   obtain ⟨t0, ht0⟩ : ∃ t, tab i0 = t := ⟨_, rfl⟩
   have c2 : W.cell? ⟨g, i0, none⟩ = some (.int .u32 t0) := by rw [cell_of_blk HT.out, tabV_get i0 hil, ht0]
   have htl : t0 < 4294967296 := by rw [← ht0]; exact tab_lt _ (by omega)
   obtain ⟨b0, hb0⟩ : ∃ b, a0 / 16 ^^^ t0 = b := ⟨_, rfl⟩
   have hbl : b0 < 4294967296 := by rw [← hb0]; exact xor_lt32 (by omega) htl
   have e3 : bits .xor .u32 ((a0 : Int) / 16) (t0 : Int) = (b0 : Int) := by rw [← hb0]; exact xor_walk (a0 / 16) t0 (by omega) htl
   obtain ⟨i1, hi1⟩ : ∃ i, b0 % 16 = i := ⟨_, rfl⟩
   have hil1 : i1 < 16 := by omega
   have e4 := and15_walk b0 hbl
   rw [hi1] at e4
   obtain ⟨t1, ht1⟩ : ∃ t, tab i1 = t := ⟨_, rfl⟩
   have c4 : W.cell? ⟨g, i1, none⟩ = some (.int .u32 t1) := by rw [cell_of_blk HT.out, tabV_get i1 hil1, ht1]
   have htl1 : t1 < 4294967296 := by rw [← ht1]; exact tab_lt _ (by omega)
   obtain ⟨d0, hd0⟩ : ∃ b, b0 / 16 ^^^ t1 = b := ⟨_, rfl⟩
   have hdl : d0 < 4294967296 := by rw [← hd0]; exact xor_lt32 (by omega) htl1
   have e5 : bits .xor .u32 ((b0 : Int) / 16) (t1 : Int) = (d0 : Int) := by rw [← hd0]; exact xor_walk (b0 / 16) t1 (by omega) htl1
   have HD : Hid (crcStep v x = d0) := by
    show crcStep v x = d0
    unfold crcStep
    simp only [ha0, hi0, ht0, hb0, hi1, ht1, hd0]
   clear ha0 hi0 ht0 hb0 hi1 ht1 hd0
   go_wp2_with fail
   go_round
   case rel => exact ⟨k + 1, d0, by go_num, rfl, by omega, hdl, Lib.hid (by rw [← H.out, H2.out, List.foldl_cons, Hx.out, HD.out])⟩
   case measure => simp [intOf]; omega
  ·obtain rfl : k = l.length := by omega
   go_wp2_with fail
   go_ret
   have hm : IntKind.u32.max = ((4294967295 : Nat) : Int) := by decide
   have hv' : v = l.foldl crcStep 4294967295 := by have := H.out; rwa [List.drop_length] at this
   refine ⟨?_, hx⟩
   show Ending.returned (.int .u32 (bits .xor .u32 IntKind.u32.max (v : Int))) = _
   rw [hm, xor_walk _ v (by decide) hv, hv']
   rfl
end Go.Proofs.YtgglbholbkdgfaaGreatDoor
namespace Go.Proofs.YtgglbholbkdgfaaGreatDoor
open Go.RowKit
def enc (p : List UInt8) : List UInt8 := be 4 p.length ++ be 4 (crc (be 4 p.length ++ p)) ++ p
theorem enc_length (p : List UInt8) : (enc p).length = p.length + 8 := by simp [enc, be_length]; omega
set_option maxRecDepth 100000 in
set_option maxHeartbeats 1000000 in
theorem Encode_any (s : Value) (l : List UInt8) (w : World) (hs : RdB w s l) (hlen : l.length ≤ 1048576) :
  Calls Tryz.prog 108 #[s] w fun e w' => ∃ v, e = .returned (.tuple #[v, .int .i64 0]) ∧ Own w' 5 1 v (bytesV (enc l)) ∧ Fresh w v ∧ Ext NoB w w' := by
 obtain ⟨a, c, rfl, hn, hc⟩ := Rd.shape hs
 simp only [bytesV_length] at hn ⊢ hs
 have hwr : IntKind.u32.wrap (l.length : Int) = ((l.length : Nat) : Int) := by rw [IntKind.wrap_u32]; omega
 go_enter Tryz.func108, Tryz.ntmps108
 go_wp2_with fail
 refine (Put32_any l.length (by omega) _).mono ?_
 rintro e w1 ⟨v1, rfl, o1, f1, x1⟩
 go_wp2_with fail
 refine (bytesClone_any _ _ _ o1.rd (by simp [be_length])).mono ?_
 rintro e w2 ⟨v2, rfl, o2, f2, x2⟩
 have x02 := x1.trans x2
 have s2 := Lib.hid (Rd.src (P := Tryz.prog) unBytes (hs.no x02) (bytesV_one l) (by decide))
 go_wp2_with (at_builtin; refine wpList_app _ rfl (.tmp 14) (.tmp 15) 35 35 rfl 5 1 1 unBytes elByte o2 s2.out rfl rfl (by simp [be_length]; omega) (by decide) ?_; intro v3 w3 o3 x3 h3)
 have x03 : Ext NoB w w3 := (f2.mono x1.size).ext x02 x3
 have o3' : RdB w3 v3 (be 4 l.length ++ l) := by unfold RdB; rw [bytesV_append]; exact o3.rd
 refine (Sum_any _ _ _ o3' (by simp [be_length]; omega)).mono ?_
 rintro e w4 ⟨rfl, x4⟩
 have hcl := crc_lt (be 4 l.length ++ l)
 obtain ⟨q, hq⟩ : ∃ q, crc (be 4 l.length ++ l) = q := ⟨_, rfl⟩
 rw [hq] at hcl ⊢
 have Hq := Lib.hid hq
 clear hq
 go_wp2_with fail
 refine (Put32_any q (by omega) _).mono ?_
 rintro e w5 ⟨v5, rfl, o5, f5, x5⟩
 have x15 : Ext NoB w1 w5 := ((f2.ext x2 x3).trans x4).trans x5
 have x05 : Ext NoB w w5 := x1.trans x15
 have s5 := Lib.hid (Rd.src (P := Tryz.prog) unBytes o5.rd (bytesV_one (be 4 q)) (by decide))
 have o15 := o1.no x15
 go_wp2_with (first
  | (at_builtin; refine wpList_app _ rfl (.tmp 18) (.tmp 20) 35 35 rfl 5 1 1 unBytes elByte o15 s5.out rfl rfl (by simp [be_length]) (by decide) ?_; intro v6 w6 o6 x6 h6; have s6 := Lib.hid (Rd.src (P := Tryz.prog) unBytes (hs.no (f1.ext x05 x6)) (bytesV_one l) (by decide)))
  | (at_builtin; refine wpList_app _ rfl (.tmp 21) (.tmp 22) 35 35 rfl 5 1 1 unBytes elByte o6 s6.out rfl rfl (by simp [be_length]; omega) (by decide) ?_; intro v7 w7 o7 x7 h7))
 go_ret2
 have f6 : Fresh w v6 := f1.app x05.size h6
 have x06 : Ext NoB w w6 := f1.ext x05 x6
 refine ⟨v7, rfl, ?_, f6.app x06.size h7, f6.ext x06 x7⟩
 unfold enc
 rw [Hq.out, bytesV_append, bytesV_append]
 exact o7
theorem szByte : (Tryz.prog.info? 5).map (·.size) = some 1 := by kernel_rfl
def dec (b : List UInt8) : List UInt8 × Nat × Nat :=
 if b.length < 8 then ([], 0, 2) else
 if 1048576 < beV (b.take 4) then ([], 0, 5) else
 if b.length < 8 + beV (b.take 4) then ([], 0, 2) else
 if crc (b.take 4 ++ (b.drop 8).take (beV (b.take 4))) = beV ((b.drop 4).take 4) then ((b.drop 8).take (beV (b.take 4)), 8 + beV (b.take 4), 0) else ([], 0, 4)
def DecEnds (l : List UInt8) (w : World) (e : Ending) (w' : World) : Prop :=
 ∃ v, e = .returned (.tuple #[v, .int .i64 (dec l).2.1, .int .i64 (dec l).2.2]) ∧ Own w' 5 1 v (bytesV (dec l).1) ∧ Fresh w v ∧ Ext NoB w w'
theorem decErr {l : List UInt8} {w w' : World} {n : Nat} (h : dec l = ([], 0, n)) (x : Ext NoB w w') : DecEnds l w (.returned (.tuple #[.slice none 0 0, .int .i64 0, .int .i64 n])) w' :=
 ⟨.slice none 0 0, by rw [h]; rfl, by rw [h]; exact Own.nil _ _ _, Fresh.nil _ _ _, x⟩
set_option maxRecDepth 100000 in
set_option maxHeartbeats 1000000 in
theorem Decode_any (s : Value) (l : List UInt8) (w : World) (hs : RdB w s l) (hlen : l.length < 1000000000000) :
  Calls Tryz.prog 70 #[s] w (DecEnds l w) := by
 have hg := Get32_any s l w hs hlen
 obtain ⟨a, c, rfl, hn, hc⟩ := Rd.shape hs
 simp only [bytesV_length] at hn hg ⊢ hs
 by_cases h4 : 4 ≤ l.length
 ·rw [if_pos h4] at hg
  have Hg := Lib.hid hg
  clear hg
  have hnl := beV_lt (l.take 4) 4 (by simp; omega)
  by_cases h8 : l.length < 8
  ·have hd : dec l = ([], 0, 2) := by unfold dec; rw [if_pos h8]
   have Hd := Lib.hid hd
   clear hd
   go_enter Tryz.func70, Tryz.ntmps70
   go_wp2_with (go_at_call 97; refine Hg.out.mono ?_; rintro e w1 ⟨rfl, rfl⟩)
   go_ret3
   exact decErr Hd.out (Ext.refl _ _)
  ·have hs4 : RdB w (.slice (subA a 4 c) (l.length - 4) (c - 4)) (l.drop 4) := hs.drop 4 h4 hn
   have hg2 := Get32_any _ (l.drop 4) w hs4 (by simp; omega)
   rw [if_pos (by simp; omega)] at hg2
   have Hg2 := Lib.hid hg2
   have hsl4 := fun wx => run_sub_l (P := Tryz.prog) wx 35 5 unBytes szByte a l.length c .i64 4 (by omega) (by omega)
   obtain ⟨n, hn'⟩ : ∃ n, beV (l.take 4) = n := ⟨_, rfl⟩
   obtain ⟨sum, hsum⟩ : ∃ n, beV ((l.drop 4).take 4) = n := ⟨_, rfl⟩
   rw [hn'] at hnl Hg
   rw [hsum] at Hg2
   have hnl' : n < 4294967296 := by simpa using hnl
   have Hn := Lib.hid hn'
   have Hsum := Lib.hid hsum
   clear hg2 hn' hsum hnl
   by_cases hbig : 1048576 < n
   ·have Hd : Hid (dec l = ([], 0, 5)) := Lib.hid (by unfold dec; rw [if_neg h8, Hn.out, if_pos hbig])
    go_enter Tryz.func70, Tryz.ntmps70
    go_wp2_with fail
    refine Hg.out.mono ?_; rintro e w1 ⟨rfl, rfl⟩
    go_wp2_with fail
    refine Hg2.out.mono ?_; rintro e w1 ⟨rfl, rfl⟩
    go_wp2_with fail
    go_ret3
    exact decErr Hd.out (Ext.refl _ _)
   ·by_cases hsh : l.length < 8 + n
    ·have Hd : Hid (dec l = ([], 0, 2)) := Lib.hid (by unfold dec; rw [if_neg h8, Hn.out, if_neg hbig, if_pos hsh])
     go_enter Tryz.func70, Tryz.ntmps70
     go_wp2_with fail
     refine Hg.out.mono ?_; rintro e w1 ⟨rfl, rfl⟩
     go_wp2_with fail
     refine Hg2.out.mono ?_; rintro e w1 ⟨rfl, rfl⟩
     go_wp2_with fail
     go_ret3
     exact decErr Hd.out (Ext.refl _ _)
    ·have hsl8 : ∀ wx, (Instr.slice 35 (.slice a l.length c) (some (.int .i64 8)) (some (.int .i64 (8 + (n : Int)))) none).run Tryz.prog wx = .ok (.slice (subA a 8 c) n (c - 8)) wx := fun wx => by
      rw [run_sub_lh (P := Tryz.prog) wx 35 5 unBytes szByte a l.length c .i64 .i64 8 (8 + (n : Int)) (by omega) (by omega) (by omega)]
      have e1 : (8 + (n : Int)).toNat - (8 : Int).toNat = n := by omega
      rw [e1]; rfl
     have hs8 : RdB w (.slice (subA a 8 c) n (c - 8)) ((l.drop 8).take n) := RdB.sub hs 8 n c (by omega) (by omega) (Nat.le_refl _)
     have hs0 : RdB w (.slice a 4 c) (l.take 4) := RdB.sub0 hs 4 c h4 (by omega) (Nat.le_refl _)
     have hl4 : (l.take 4).length = 4 := by simp; omega
     have hl8 : ((l.drop 8).take n).length = n := by simp; omega
     obtain ⟨pre, hpre⟩ : ∃ p, l.take 4 = p := ⟨_, rfl⟩
     obtain ⟨pay, hpay⟩ : ∃ p, (l.drop 8).take n = p := ⟨_, rfl⟩
     rw [hpre] at hl4 hs0
     rw [hpay] at hl8 hs8
     have Hpre := Lib.hid hpre
     have Hpay := Lib.hid hpay
     clear hpre hpay
     have hcl := crc_lt (pre ++ pay)
     obtain ⟨q, hq⟩ : ∃ q, crc (pre ++ pay) = q := ⟨_, rfl⟩
     have Hq := Lib.hid hq
     rw [hq] at hcl
     clear hq
     have Hl4 := Lib.hid hl4
     have Hl8 := Lib.hid hl8
     clear hl4 hl8
     by_cases heq : q = sum
     ·have Hd : Hid (dec l = (pay, 8 + n, 0)) := Lib.hid (by unfold dec; rw [if_neg h8, Hn.out, if_neg hbig, if_neg hsh, Hpre.out, Hpay.out, Hq.out, Hsum.out, if_pos heq])
      subst heq
      go_enter Tryz.func70, Tryz.ntmps70
      go_wp2_with fail
      refine Hg.out.mono ?_; rintro e w1 ⟨rfl, rfl⟩
      go_wp2_with fail
      refine Hg2.out.mono ?_; rintro e w1 ⟨rfl, rfl⟩
      go_wp2_with fail
      refine (bytesClone_any _ _ _ hs0 (by rw [Hl4.out]; omega)).mono ?_; rintro e w1 ⟨v1, rfl, o1, f1, x1⟩
      have s1 := Lib.hid (Rd.src (P := Tryz.prog) unBytes (hs8.no x1) (bytesV_one pay) (by decide))
      go_wp2_with (at_builtin; refine wpList_app _ rfl (.tmp 45) (.tmp 46) 35 35 rfl 5 1 1 unBytes elByte o1 s1.out rfl rfl (by simp only [bytesV_length]; rw [Hl4.out, Hl8.out]; omega) (by decide) ?_; intro v2 w2 o2 x2 h2)
      have r2 : RdB w2 v2 (pre ++ pay) := by unfold RdB; rw [bytesV_append]; exact o2.rd
      have x02 := f1.ext x1 x2
      refine (Sum_any _ _ _ r2 (by rw [List.length_append, Hl4.out, Hl8.out]; omega)).mono ?_
      rintro e w3 ⟨rfl, x3⟩
      rw [Hq.out]
      have x03 := x02.trans x3
      go_wp2_with fail
      refine (bytesClone_any _ _ _ (hs8.no x03) (by rw [Hl8.out]; omega)).mono ?_; rintro e w4 ⟨v4, rfl, o4, f4, x4⟩
      go_wp2_with fail
      go_ret3
      exact ⟨v4, by rw [Hd.out]; rfl, by rw [Hd.out]; exact o4, f4.mono x03.size, x03.trans x4⟩
     ·have Hd : Hid (dec l = ([], 0, 4)) := Lib.hid (by unfold dec; rw [if_neg h8, Hn.out, if_neg hbig, if_neg hsh, Hpre.out, Hpay.out, Hq.out, Hsum.out, if_neg heq])
      have hne : ((q : Int) != (sum : Int)) = true := by rw [bne_iff_ne]; omega
      go_enter Tryz.func70, Tryz.ntmps70
      go_wp2_with fail
      refine Hg.out.mono ?_; rintro e w1 ⟨rfl, rfl⟩
      go_wp2_with fail
      refine Hg2.out.mono ?_; rintro e w1 ⟨rfl, rfl⟩
      go_wp2_with fail
      refine (bytesClone_any _ _ _ hs0 (by rw [Hl4.out]; omega)).mono ?_; rintro e w1 ⟨v1, rfl, o1, f1, x1⟩
      have s1 := Lib.hid (Rd.src (P := Tryz.prog) unBytes (hs8.no x1) (bytesV_one pay) (by decide))
      go_wp2_with (at_builtin; refine wpList_app _ rfl (.tmp 45) (.tmp 46) 35 35 rfl 5 1 1 unBytes elByte o1 s1.out rfl rfl (by simp only [bytesV_length]; rw [Hl4.out, Hl8.out]; omega) (by decide) ?_; intro v2 w2 o2 x2 h2)
      have r2 : RdB w2 v2 (pre ++ pay) := by unfold RdB; rw [bytesV_append]; exact o2.rd
      have x02 := f1.ext x1 x2
      refine (Sum_any _ _ _ r2 (by rw [List.length_append, Hl4.out, Hl8.out]; omega)).mono ?_
      rintro e w3 ⟨rfl, x3⟩
      rw [Hq.out]
      go_wp2_with fail
      go_ret3
      exact decErr Hd.out (x02.trans x3)
 ·rw [if_neg h4] at hg
  have Hg := Lib.hid hg
  have Hd : Hid (dec l = ([], 0, 2)) := Lib.hid (by unfold dec; rw [if_pos (by omega)])
  clear hg
  go_enter Tryz.func70, Tryz.ntmps70
  go_wp2_with (go_at_call 97; refine Hg.out.mono ?_; rintro e w1 ⟨rfl, rfl⟩)
  go_ret3
  exact decErr Hd.out (Ext.refl _ _)
end Go.Proofs.YtgglbholbkdgfaaGreatDoor
