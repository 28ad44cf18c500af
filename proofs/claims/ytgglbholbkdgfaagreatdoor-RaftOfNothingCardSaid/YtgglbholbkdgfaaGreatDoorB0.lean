/- Base notions for every proof of this seat: what a call may have changed (Ext), slices that a function owns (Own) or only reads (Rd), and the law of append over them. No program in sight. -/
import Derived.WalkKit
import Derived.Deep.Draws
import Derived.Deep.AppendSrc
namespace Go.Proofs.YtgglbholbkdgfaaGreatDoor
open Go.RowKit

/-- The walk stands still here: the goal behind a name that it can't look into. -/
theorem halt2 {p : Prop} (h : ∀ K : Prop, Hid (p → K) → K) : p := h p (fun h => h)

/-- w' is w with new blocks, and with changes in blocks of F alone. -/
structure Ext (F : Nat → Prop) (w w' : World) : Prop where
  os : w'.os = w.os
  tape : w'.tape = w.tape
  output : w'.output = w.output
  size : w.heap.size ≤ w'.heap.size
  block : ∀ k, k < w.heap.size → ¬ F k → w'.heap[k]? = w.heap[k]?

/-- No block. -/
def NoB : Nat → Prop := fun _ => False
/-- One block. -/
def OneB (r : Nat) : Nat → Prop := fun k => k = r

theorem Ext.refl (F : Nat → Prop) (w : World) : Ext F w w := ⟨rfl, rfl, rfl, Nat.le_refl _, fun _ _ _ => rfl⟩
theorem Ext.trans' {F G H : Nat → Prop} {a b c : World} (h : Ext F a b) (k : Ext G b c) (hF : ∀ x, x < a.heap.size → F x → H x) (hG : ∀ x, x < a.heap.size → G x → H x) : Ext H a c :=
  ⟨k.os.trans h.os, k.tape.trans h.tape, k.output.trans h.output, Nat.le_trans h.size k.size, fun i hi hn =>
    (k.block i (Nat.lt_of_lt_of_le hi h.size) (fun e => hn (hG i hi e))).trans (h.block i hi (fun e => hn (hF i hi e)))⟩
theorem Ext.trans {F : Nat → Prop} {a b c : World} (h : Ext F a b) (k : Ext F b c) : Ext F a c := h.trans' k (fun _ _ h => h) (fun _ _ h => h)
theorem Ext.mono {F G : Nat → Prop} {a b : World} (h : Ext F a b) (hF : ∀ x, x < a.heap.size → F x → G x) : Ext G a b :=
  ⟨h.os, h.tape, h.output, h.size, fun i hi hn => h.block i hi (fun e => hn (hF i hi e))⟩
theorem Ext.of_no {F : Nat → Prop} {a b : World} (h : Ext NoB a b) : Ext F a b := h.mono (fun _ _ h => h.elim)
theorem Ext.drewN {F : Nat → Prop} {a w : World} (h : Ext F a w) (n : Nat) : Ext F a (w.drewN n) := ⟨h.os, h.tape, h.output, h.size, h.block⟩
theorem Ext.drew {F : Nat → Prop} {a w : World} (h : Ext F a w) : Ext F a w.drew := ⟨h.os, h.tape, h.output, h.size, h.block⟩
theorem Ext.alloc {F : Nat → Prop} {a w : World} (h : Ext F a w) (o : Obj) : Ext F a (w.alloc o) :=
  ⟨h.os, h.tape, h.output, by have := h.size; simp; omega, fun k hk hn => (Below.heap_alloc w o k (by have := h.size; omega)).trans (h.block k hk hn)⟩
theorem Ext.setCell {F : Nat → Prop} {a w : World} (h : Ext F a w) {p : Addr} (hp : F p.block ∨ a.heap.size ≤ p.block) (u : Value) : Ext F a (w.setCell p u) :=
  ⟨h.os, h.tape, h.output, by have := h.size; simpa [World.setCell] using this, fun k hk hn => (Below.heap_setCell w p u k (by rintro rfl; rcases hp with h | h; exact hn h; omega)).trans (h.block k hk hn)⟩
theorem Ext.setRow {F : Nat → Prop} {a w : World} (h : Ext F a w) {g : Nat} (hp : F g ∨ a.heap.size ≤ g) (cs : Array Value) : Ext F a (w.setRow g cs) :=
  ⟨h.os, h.tape, h.output, by have := h.size; simpa [World.setRow] using this, fun k hk hn => (setRow_other w g k cs (by rintro rfl; rcases hp with h | h; exact hn h; omega)).trans (h.block k hk hn)⟩
theorem Ext.grown {F : Nat → Prop} {a w w' : World} {row : Option Nat} (h : Ext F a w) (hg : w.grownBy w' row) (hr : ∀ k, row = some k → F k ∨ a.heap.size ≤ k) : Ext F a w' :=
  ⟨hg.os.trans h.os, hg.tape.trans h.tape, hg.output.trans h.output, Nat.le_trans h.size hg.size, fun k hk hn =>
    (hg.block k (by have := h.size; omega) (fun e => by rcases hr k e.symm with x | x; exact hn x; omega)).trans (h.block k hk hn)⟩
theorem Ext.below {w w' : World} (h : Ext NoB w w') : Below w.heap.size w w' := ⟨h.os, h.tape, h.output, h.size, fun k hk => h.block k hk (fun e => e)⟩
theorem Ext.of_below {F : Nat → Prop} {w w' : World} (h : Below w.heap.size w w') : Ext F w w' := ⟨h.os, h.tape, h.output, h.size, fun k hk _ => h.block k hk⟩
/-- The heap behind, one after another: from inside on. -/
theorem Ext.next {F G : Nat → Prop} {a w w' : World} (h : Ext F a w) (k : Ext G w w') (hG : ∀ x, G x → x < a.heap.size → F x) : Ext F a w' := h.trans' k (fun _ _ h => h) (fun x hx g => hG x g hx)
theorem Ext.nextNo {F : Nat → Prop} {a w w' : World} (h : Ext F a w) (k : Ext NoB w w') : Ext F a w' := h.trans k.of_no
theorem Ext.blk {F : Nat → Prop} {w w' : World} (h : Ext F w w') {b : Nat} {o : Obj} (hb : w.heap[b]? = some o) (hF : ¬ F b) : w'.heap[b]? = some o :=
  (h.block b (Array.getElem?_eq_some_iff.1 hb).1 hF).trans hb
theorem Ext.cell {F : Nat → Prop} {w w' : World} (h : Ext F w w') {p : Addr} {v : Value} (hc : w.cell? p = some v) (hF : ¬ F p.block) : w'.cell? p = some v :=
  (World.cell?_of_block (w := w) (h.block p.block (World.block_lt_of_cell? w p hc) hF)).trans hc

theorem lt_of_blk {w : World} {b : Nat} {o : Obj} (h : w.heap[b]? = some o) : b < w.heap.size := (Array.getElem?_eq_some_iff.1 h).1
theorem cell_of_blk {w : World} {b : Nat} {cs : Array Value} {t : TypeId} {fr : Nat × Nat} (h : w.heap[b]? = some (.cells cs t fr)) (o : Nat) : w.cell? ⟨b, o, none⟩ = cs[o]? := by simp [World.cell?, h]
theorem frozen_of_blk {w : World} {b : Nat} {cs : Array Value} {t : TypeId} (h : w.heap[b]? = some (.cells cs t (0, 0))) (o : Nat) : w.frozen? ⟨b, o, none⟩ = false := by simp [World.frozen?, h]
theorem blk_setCell {w : World} {b : Nat} {cs : Array Value} {t : TypeId} {fr : Nat × Nat} (h : w.heap[b]? = some (.cells cs t fr)) (o : Nat) (v : Value) : (w.setCell ⟨b, o, none⟩ v).heap[b]? = some (.cells (cs.setIfInBounds o v) t fr) := by
  simp only [World.setCell, Array.getElem?_modify, if_true, h]; simp
theorem blk_setCell_ne {w : World} {b : Nat} {o : Obj} {p : Addr} (h : w.heap[b]? = some o) (hne : b ≠ p.block) (v : Value) : (w.setCell p v).heap[b]? = some o := (Below.heap_setCell w p v b hne).trans h
theorem blk_alloc {w : World} {b : Nat} {o : Obj} (h : w.heap[b]? = some o) (x : Obj) : (w.alloc x).heap[b]? = some o := (Below.heap_alloc w x b (lt_of_blk h)).trans h
theorem blk_new (w : World) (x : Obj) : (w.alloc x).heap[w.heap.size]? = some x := heap_alloc_new w x
theorem blk_drewN {w : World} {b : Nat} {o : Obj} (h : w.heap[b]? = some o) (n : Nat) : (w.drewN n).heap[b]? = some o := h

/-- A slice that is the function's own: nil, or the head of a row that is not shared with a string. xs: its cells. -/
def Own (w : World) (e size : Nat) (v : Value) (xs : List Value) : Prop :=
  (v = .slice none 0 0 ∧ xs = []) ∨
  ∃ g n cap cur, v = .slice (some ⟨g, 0, none⟩) n cap ∧ w.heap[g]? = some (.cells cur e (0, 0)) ∧ n ≤ cap ∧ cap * size ≤ cur.size ∧ cap ≤ maxLen ∧ xs.length = n * size ∧ cur.toList.take (n * size) = xs

/-- A slice that can be read: xs are its cells. -/
def Rd (w : World) (size : Nat) (v : Value) (xs : List Value) : Prop :=
  ∃ a n c, v = .slice a n c ∧ xs.length = n * size ∧ n ≤ c ∧ c ≤ maxLen ∧ (∀ p, a = some p → p.spot = none) ∧ (xs ≠ [] → ∃ b off, a = some ⟨b, off, none⟩ ∧ ∀ j u, xs[j]? = some u → w.cell? ⟨b, off + j, none⟩ = some u)

/-- Its block is not of F. -/
def Off (F : Nat → Prop) (v : Value) : Prop := ∀ g, v.ownBlock = some g → ¬ F g
/-- Its block is new. -/
def Fresh (w : World) (v : Value) : Prop := ∀ g, v.ownBlock = some g → w.heap.size ≤ g

theorem Fresh.off {w : World} {v : Value} (h : Fresh w v) {F : Nat → Prop} (hF : ∀ x, F x → x < w.heap.size) : Off F v := fun g hg hf => by have := h g hg; have := hF g hf; omega
theorem Fresh.mono {w w' : World} {v : Value} (h : Fresh w' v) (hs : w.heap.size ≤ w'.heap.size) : Fresh w v := fun g hg => Nat.le_trans hs (h g hg)
theorem Fresh.nil (w : World) (n c : Nat) : Fresh w (.slice none n c) := fun g hg => by cases hg

theorem Fresh.new (w : World) (o : Nat) (sp : Option Nat) (n c : Nat) : Fresh w (.slice (some ⟨w.heap.size, o, sp⟩) n c) := fun g hg => by simp [Value.ownBlock] at hg; omega

theorem Own.nil (w : World) (e size : Nat) : Own w e size (.slice none 0 0) [] := .inl ⟨rfl, rfl⟩
theorem Own.lt {w : World} {e size : Nat} {v : Value} {xs : List Value} (h : Own w e size v xs) : ∀ g, v.ownBlock = some g → g < w.heap.size := by
  intro g hg
  rcases h with ⟨rfl, _⟩ | ⟨g', n, cap, cur, rfl, hb, _⟩
  · cases hg
  · simp [Value.ownBlock] at hg; subst hg; exact lt_of_blk hb
theorem Own.ext {w w' : World} {F : Nat → Prop} {e size : Nat} {v : Value} {xs : List Value} (h : Own w e size v xs) (x : Ext F w w') (hF : Off F v) : Own w' e size v xs := by
  rcases h with h | ⟨g, n, cap, cur, rfl, hb, r⟩
  · exact .inl h
  · exact .inr ⟨g, n, cap, cur, rfl, x.blk hb (hF g rfl), r⟩
theorem Own.ne_blk {w : World} {e size b : Nat} {v : Value} {xs : List Value} (h : Own w e size v xs) {cs : Array Value} {t : TypeId} {fr : Nat × Nat} (hb : w.heap[b]? = some (.cells cs t fr)) (hne : t ≠ e) : ∀ g, v.ownBlock = some g → b ≠ g := by
  rintro g hg rfl
  rcases h with ⟨rfl, _⟩ | ⟨g', n, cap, cur, rfl, hb', _⟩
  · cases hg
  · simp [Value.ownBlock] at hg
    rw [hg, hb] at hb'
    injection hb' with h1
    injection h1 with h2 h3 h4
    exact hne h3
theorem Own.ne_map {w : World} {e size b : Nat} {v : Value} {xs : List Value} (h : Own w e size v xs) {es : Array MapEntry} {c : Nat} (hb : w.heap[b]? = some (.map es c)) : ∀ g, v.ownBlock = some g → b ≠ g := by
  rintro g hg rfl
  rcases h with ⟨rfl, _⟩ | ⟨g', n, cap, cur, rfl, hb', _⟩
  · cases hg
  · simp [Value.ownBlock] at hg
    rw [hg, hb] at hb'
    cases hb'
theorem Own.no {w w' : World} {e size : Nat} {v : Value} {xs : List Value} (h : Own w e size v xs) (x : Ext NoB w w') : Own w' e size v xs := h.ext x (fun _ _ h => h)
theorem Own.rd {w : World} {e size : Nat} {v : Value} {xs : List Value} (h : Own w e size v xs) : Rd w size v xs := by
  rcases h with ⟨rfl, rfl⟩ | ⟨g, n, cap, cur, rfl, hb, hn, hc, hm, hl, ht⟩
  · exact ⟨none, 0, 0, rfl, by simp, Nat.le_refl _, by unfold maxLen; omega, (fun _ h => by cases h), fun h => (h rfl).elim⟩
  · refine ⟨_, n, cap, rfl, hl, hn, hm, (fun _ h => by cases h; rfl), fun _ => ⟨g, 0, rfl, fun j u hu => ?_⟩⟩
    rw [Nat.zero_add, cell_of_blk hb]
    rw [← ht, List.getElem?_take] at hu
    split at hu
    · simpa using hu
    · cases hu
theorem Rd.ext {w w' : World} {F : Nat → Prop} {size : Nat} {v : Value} {xs : List Value} (h : Rd w size v xs) (x : Ext F w w') (hF : Off F v) : Rd w' size v xs := by
  obtain ⟨a, n, c, rfl, hl, hn, hc, hs, hr⟩ := h
  refine ⟨a, n, c, rfl, hl, hn, hc, hs, fun hne => ?_⟩
  obtain ⟨b, off, rfl, hcell⟩ := hr hne
  exact ⟨b, off, rfl, fun j u hu => x.cell (hcell j u hu) (hF b rfl)⟩
theorem Rd.no {w w' : World} {size : Nat} {v : Value} {xs : List Value} (h : Rd w size v xs) (x : Ext NoB w w') : Rd w' size v xs := h.ext x (fun _ _ h => h)
theorem Rd.nil (w : World) (size : Nat) : Rd w size (.slice none 0 0) [] := (Own.nil w 0 size).rd
/-- A value of a slice's shape, with its length. -/
theorem Rd.shape {w : World} {v : Value} {xs : List Value} (h : Rd w 1 v xs) : ∃ a c, v = .slice a xs.length c ∧ xs.length ≤ c ∧ c ≤ maxLen := by
  obtain ⟨a, n, c, rfl, hl, hn, hc, _, _⟩ := h
  exact ⟨a, c, by rw [hl, Nat.mul_one], by omega, hc⟩

/-- The row of the type table of an element type, as far as append asks. -/
def ElemT (P : Program) (e size bytes : Nat) : Prop := ∃ i z, P.info? e = some i ∧ i.zero = some z ∧ i.size = size ∧ i.bytes = bytes ∧ z.cells.size = size ∧ 0 < size
theorem ElemT.of {P : Program} {e size bytes : Nat} {z : Value} (h : (P.info? e).map (fun i => (i.zero, i.size, i.bytes)) = some (some z, size, bytes)) (hz : z.cells.size = size) (h0 : 0 < size) : ElemT P e size bytes := by
  obtain ⟨i, hi, h1, h2, h3⟩ := info_parts h
  exact ⟨i, z, hi, h1, h2, h3, hz, h0⟩

theorem Rd.src {P : Program} {w : World} {size tx e' : Nat} {v : Value} {xs : List Value} (hk : P.underlying tx = some (.slice e')) (h : Rd w size v xs) (h1 : ∀ u ∈ xs, u.oneCell' = true) (hz : 0 < size) :
    Src P size tx v (xs.length / size) xs w := by
  obtain ⟨a, n, c, rfl, hl, hn, hc, hs, hr⟩ := h
  have hn' : xs.length / size = n := by rw [hl]; exact Nat.mul_div_cancel _ hz
  rw [hn']
  match xs, a with
  | [], none =>
    have : n = 0 := by rcases Nat.eq_zero_or_pos n with h | h; exact h; (have := Nat.mul_pos h hz; simp at hl; omega)
    subst this
    exact Src.ofNil w hk c
  | [], some p =>
    have : n = 0 := by rcases Nat.eq_zero_or_pos n with h | h; exact h; (have := Nat.mul_pos h hz; simp at hl; omega)
    subst this
    exact Src.ofSlice w hk p 0 c [] (by simp) (by simp) (by simp)
  | x :: xs, a =>
    obtain ⟨b, off, rfl, hcell⟩ := hr (by simp)
    refine Src.ofSlice w hk _ n c _ hl (fun j u hu => ?_) h1
    have := hcell j u hu
    unfold Addr.add
    split
    · subst_vars; simpa using this
    · exact this

section
variable {P : Program} (w : World)
/-- THE LAW OF append onto a slice of one's own, whatever is appended. -/
theorem run_app (t tx ty e size bytes : Nat) (ht : P.underlying t = some (.slice e)) (hE : ElemT P e size bytes)
    (v : Value) (xs : List Value) (hown : Own w e size v xs) (x : Value) (m : Nat) (news : List Value) (hs : Src P size tx x m news w) (hb : (xs.length + news.length) * bytes ≤ 140737488355328) (hb0 : 0 < bytes) :
    ∃ v' w', (Builtin.append_ #[t, tx] ty #[v, x]).run P w = .ok v' w' ∧ Own w' e size v' (xs ++ news) ∧ Ext (fun k => v.ownBlock = some k) w w' ∧ (v'.ownBlock = v.ownBlock ∨ ∃ g, v'.ownBlock = some g ∧ w.heap.size ≤ g) := by
  obtain ⟨i, z, hi, hz, hsize, hby, hzs, hsz⟩ := hE
  subst hsize; subst hby
  have hl := hs.newsLen
  -- the growing arm
  have hgrow : ∀ (base : Option Addr) (n old : Nat) (hxs : xs.length = n * i.size) (hold : (Builtin.firstCells i.size n (.slice base n old)).run P w.drew = .ok xs.toArray w.drew) (hlt : old < n + m),
      ∃ v' w', (Builtin.append_ #[t, tx] ty #[.slice base n old, x]).run P w = .ok v' w' ∧ Own w' e i.size v' (xs ++ news) ∧ Ext (fun k => (Value.slice base n old).ownBlock = some k) w w' ∧ (v'.ownBlock = (Value.slice base n old).ownBlock ∨ ∃ g, v'.ownBlock = some g ∧ w.heap.size ≤ g) := by
    intro base n old hxs hold hlt
    have hnb : (n + m) * i.bytes ≤ 140737488355328 := by
      refine Nat.le_trans (Nat.mul_le_mul_right _ ?_) hb
      rw [hxs, hl, ← Nat.add_mul]
      exact Nat.le_mul_of_pos_right _ hsz
    have hnm : n + m ≤ 140737488355328 := Nat.le_trans (Nat.le_mul_of_pos_right _ hb0) hnb
    have hr := run_append_grow_src (P := P) w t tx ty e i z ht hi hz base n old xs hold x m news hs hlt (by omega) (growslice_fits hlt hnb)
    have hge := grownCap_ge w (n + m) old e
    have hcm : grownCap w (n + m) old e ≤ maxLen := grownCap_le_maxLen w (n + m) old e (by unfold maxLen; omega)
    refine ⟨_, _, hr, .inr ⟨w.heap.size, n + m, grownCap w (n + m) old e, _, rfl, heap_alloc_new w.drew _, hge, ?_, hcm, ?_, ?_⟩, ((Ext.refl _ w).drew).alloc _, .inr ⟨w.heap.size, rfl, Nat.le_refl _⟩⟩
    · simp only [Array.size_append, List.size_toArray, List.length_append, size_zeroCells, hzs, hxs, hl, ← Nat.add_mul]
      exact Nat.mul_le_mul_right _ (by omega)
    · rw [List.length_append, hxs, hl, Nat.add_mul]
    · have : (n + m) * i.size = (xs ++ news).length := by rw [List.length_append, hxs, hl, Nat.add_mul]
      rw [this]
      simp only [Array.toList_append]
      exact List.take_left
  rcases hown with ⟨rfl, rfl⟩ | ⟨g, n, cap, cur, rfl, hg, hnc, hcs, hcm, hxl, htake⟩
  · by_cases hm : m = 0
    · subst hm
      have hn : news = [] := List.eq_nil_of_length_eq_zero (by simpa using hl)
      subst hn
      refine ⟨.slice none 0 0, w, ?_, .inl ⟨rfl, rfl⟩, Ext.refl _ _, .inl rfl⟩
      rcases hs.kind with ⟨e', hk⟩ | hk <;> simp [Builtin.append_, run_underlying ht, run_underlying hk, sizeOf, typeInfo, hi, hs.len, hs.cells]
    · exact hgrow none 0 0 (by simp) (run_firstCells_none w.drew i.size 0 0 0) (by omega)
  · by_cases hroom : n + m ≤ cap
    · have hfit : n * i.size + news.length ≤ cur.size := by rw [hl, ← Nat.add_mul]; exact Nat.le_trans (Nat.mul_le_mul_right _ hroom) hcs
      have hst := run_storeCells_at P g (n * i.size) e news 0 cur w hg (by simpa using hfit) hs.one
      simp only [Nat.add_zero] at hst
      refine ⟨.slice (some ⟨g, 0, none⟩) (n + m) cap, w.setRow g (cur.toList.take (n * i.size) ++ news ++ cur.toList.drop (n * i.size + news.length)).toArray, ?_, .inr ⟨g, n + m, cap, _, rfl, setRow_heap w g cur _ e _ hg, hroom, ?_, hcm, ?_, ?_⟩, (Ext.refl (fun k => (Value.slice (some ⟨g, 0, none⟩) n cap).ownBlock = some k) w).setRow (.inl rfl) _, .inl rfl⟩
      · rcases hs.kind with ⟨e', hk⟩ | hk <;> simp [Builtin.append_, run_underlying ht, run_underlying hk, sizeOf, typeInfo, hi, hs.len, hroom, hs.cells, Addr.add_lit, hst]
      · simp only [List.size_toArray, List.length_append, List.length_take, List.length_drop, Array.length_toList]
        omega
      · rw [List.length_append, hxl, hl, Nat.add_mul]
      · have : (n + m) * i.size = (xs ++ news).length := by rw [List.length_append, hxl, hl, Nat.add_mul]
        rw [this, htake]
        exact List.take_left
    · refine hgrow _ n cap hxl (run_firstCells_some w.drew i.size n ⟨g, 0, none⟩ n cap xs hxl fun j u hu => ?_) (by omega)
      obtain ⟨_, _, _, hv, _, _, _, _, hr⟩ := Own.rd (w := w) (e := e) (size := i.size) (xs := xs) (.inr ⟨g, n, cap, cur, rfl, hg, hnc, hcs, hcm, hxl, htake⟩)
      cases hv
      obtain ⟨b, off, hbo, hc⟩ := hr (by rintro rfl; cases hu)
      cases hbo
      have := hc j u hu
      rw [Addr.add_lit]
      simpa using this

/-- The operation. -/
theorem wp_app {o : Oper} {a : Act} {K : Act → World → Prop} {Q : Exit → Act → World → Prop} (s x : Operand) (t tx : TypeId)
    (ho : o.op = .call { callee := .builtin .append, args := #[s, x], argTypes := #[t, tx] })
    (e size bytes : Nat) (ht : P.underlying t = some (.slice e)) (hE : ElemT P e size bytes)
    (xs : List Value) (hown : Own w e size (a.eval s) xs) (m : Nat) (news : List Value) (hs : Src P size tx (a.eval x) m news w) (hb : (xs.length + news.length) * bytes ≤ 140737488355328) (hb0 : 0 < bytes)
    (h : ∀ v' w', Own w' e size v' (xs ++ news) → Ext (fun k => (a.eval s).ownBlock = some k) w w' → (v'.ownBlock = (a.eval s).ownBlock ∨ ∃ g, v'.ownBlock = some g ∧ w.heap.size ≤ g) → K (a.put o.dst v') w') : o.wp P a w K Q := by
  obtain ⟨v', w', hr, h2, h3, h4⟩ := run_app (P := P) w t tx o.type e size bytes ht hE (a.eval s) xs hown (a.eval x) m news hs hb hb0
  unfold Oper.wp execOp
  simp only [ho, resolve, invoke, builtin, Sem.run_bind, Sem.run_pure, Result.andThen_ok, List.map_toArray, List.map_cons, List.map_nil, hr]
  exact h v' w' h2 h3 h4
/-- In a list of operations. -/
theorem wpList_app {ops : Array Oper} {rest : List Oper} {o : Oper} {a : Act} {Q : Exit → Act → World → Prop} (hgd : o.guard = none) (s x : Operand) (t tx : TypeId)
    (ho : o.op = .call { callee := .builtin .append, args := #[s, x], argTypes := #[t, tx] })
    (e size bytes : Nat) (ht : P.underlying t = some (.slice e)) (hE : ElemT P e size bytes) {v u : Value} {xs : List Value} (hown : Own w e size v xs) {m : Nat} {news : List Value} (hs : Src P size tx u m news w) (hv : a.eval s = v) (hu : a.eval x = u) (hb : (xs.length + news.length) * bytes ≤ 140737488355328) (hb0 : 0 < bytes)
    (h : ∀ v' w', Own w' e size v' (xs ++ news) → Ext (fun k => v.ownBlock = some k) w w' → (v'.ownBlock = v.ownBlock ∨ ∃ g, v'.ownBlock = some g ∧ w.heap.size ≤ g) → wpList P ops Q rest (a.put o.dst v') w') : wpList P ops Q (o :: rest) a w := by
  subst hv; subst hu
  exact wpList_plain hgd fun _ hK => wp_app w s x t tx ho e size bytes ht hE xs hown m news hs hb hb0 fun v' w' h2 h3 h4 => hK _ _ (h v' w' h2 h3 h4)
end

/-- The address of 's[l:]' at the capacity c. -/
def subA (a : Option Addr) (l c : Nat) : Option Addr := if c = l then a else a.map (·.add l)
section
variable {P : Program} (w : World)
theorem run_sub_lh (t e : TypeId) (ht : P.underlying t = some (.slice e)) (hz : (P.info? e).map (·.size) = some 1) (a : Option Addr) (len cap : Nat) (k k' : IntKind) (l h : Int) (h0 : 0 ≤ l) (h1 : l ≤ h) (h2 : h ≤ cap) :
    (Instr.slice t (.slice a len cap) (some (.int k l)) (some (.int k' h)) none).run P w = .ok (.slice (subA a l.toNat cap) (h.toNat - l.toNat) (cap - l.toNat)) w := by
  have ht' : P.underlying t = some (.slice (P.elem t)) := by simp [Program.elem, ht]
  have he : P.elem t = e := by simp [Program.elem, ht]
  obtain ⟨i, hi, hs⟩ : ∃ i, P.info? e = some i ∧ i.size = 1 := by simpa [Option.map_eq_some_iff] using hz
  rw [run_slice_lh w t a len cap ht' k k' l h h0 h1 h2, he]
  simp [sizeOf, typeInfo, hi, hs, sliced, subA, Result.andThen]
theorem run_sub_l (t e : TypeId) (ht : P.underlying t = some (.slice e)) (hz : (P.info? e).map (·.size) = some 1) (a : Option Addr) (len cap : Nat) (k : IntKind) (l : Int) (h0 : 0 ≤ l) (h1 : l ≤ len) :
    (Instr.slice t (.slice a len cap) (some (.int k l)) none none).run P w = .ok (.slice (subA a l.toNat cap) (len - l.toNat) (cap - l.toNat)) w := by
  have ht' : P.underlying t = some (.slice (P.elem t)) := by simp [Program.elem, ht]
  have he : P.elem t = e := by simp [Program.elem, ht]
  obtain ⟨i, hi, hs⟩ : ∃ i, P.info? e = some i ∧ i.size = 1 := by simpa [Option.map_eq_some_iff] using hz
  rw [run_slice_l w t a len cap ht' k l h0 h1, he]
  simp [sizeOf, typeInfo, hi, hs, sliced, subA, Result.andThen]
theorem run_sub_h (t e : TypeId) (ht : P.underlying t = some (.slice e)) (hz : (P.info? e).map (·.size) = some 1) (a : Option Addr) (len cap : Nat) (k : IntKind) (h : Int) (h0 : 0 ≤ h) (h1 : h ≤ cap) :
    (Instr.slice t (.slice a len cap) none (some (.int k h)) none).run P w = .ok (.slice a h.toNat cap) w := by
  have ht' : P.underlying t = some (.slice (P.elem t)) := by simp [Program.elem, ht]
  have he : P.elem t = e := by simp [Program.elem, ht]
  obtain ⟨i, hi, hs⟩ : ∃ i, P.info? e = some i ∧ i.size = 1 := by simpa [Option.map_eq_some_iff] using hz
  rw [run_slice_h w t a len cap ht' k h h0 h1, he]
  cases a <;> simp [sizeOf, typeInfo, hi, hs, sliced, Result.andThen, Addr.add]
theorem run_sub_hm (t e : TypeId) (ht : P.underlying t = some (.slice e)) (hz : (P.info? e).map (·.size) = some 1) (a : Option Addr) (len cap : Nat) (k k' : IntKind) (h m : Int) (h0 : 0 ≤ h) (h1 : h ≤ m) (h2 : m ≤ cap) :
    (Instr.slice t (.slice a len cap) none (some (.int k h)) (some (.int k' m))).run P w = .ok (.slice a h.toNat m.toNat) w := by
  have ht' : P.underlying t = some (.slice (P.elem t)) := by simp [Program.elem, ht]
  have he : P.elem t = e := by simp [Program.elem, ht]
  obtain ⟨i, hi, hs⟩ : ∃ i, P.info? e = some i ∧ i.size = 1 := by simpa [Option.map_eq_some_iff] using hz
  rw [run_slice_hm w t a len cap ht' k k' h m h0 h1 h2, he]
  cases a <;> simp [sizeOf, typeInfo, hi, hs, sliced, Result.andThen, Addr.add]
end
theorem Rd.sub {w : World} {a : Option Addr} {n c : Nat} {xs : List Value} (h : Rd w 1 (.slice a n c) xs) (l k m : Nat) (hk : l + k ≤ n) (hm : l + k ≤ m) (hmc : m ≤ c) : Rd w 1 (.slice (subA a l m) k (m - l)) ((xs.drop l).take k) := by
  obtain ⟨a', n', c', hv, hl, hn, hc, hs, hr⟩ := h
  cases hv
  have hlen : ((xs.drop l).take k).length = k := by simp; omega
  refine ⟨_, k, _, rfl, by rw [hlen, Nat.mul_one], by omega, by omega, ?_, fun hne => ?_⟩
  · intro p hp
    unfold subA at hp
    split at hp
    · exact hs p hp
    · cases a with
      | none => cases hp
      | some q =>
        have hq := hs q rfl
        simp at hp; subst hp
        unfold Addr.add
        split
        · exact hq
        · rfl
  · have hk0 : 0 < k := by rcases k with _ | k; simp at hne; omega
    obtain ⟨b, off, rfl, hcell⟩ := hr (by rintro rfl; simp at hne)
    refine ⟨b, off + l, ?_, fun j u hu => ?_⟩
    · unfold subA
      rw [if_neg (by omega)]
      simp [Addr.add]
    · rw [List.getElem?_take] at hu
      split at hu
      · rw [List.getElem?_drop] at hu
        rw [Nat.add_assoc]; exact hcell _ u hu
      · cases hu
theorem Off.sub {F : Nat → Prop} {a : Option Addr} {n c : Nat} (h : Off F (.slice a n c)) (l k m m' : Nat) : Off F (.slice (subA a l m) k m') := by
  intro g hg
  apply h g
  unfold subA at hg
  split at hg
  · cases a <;> exact hg
  · cases a with
    | none => cases hg
    | some q => simp [Value.ownBlock, Addr.add] at hg ⊢; split at hg <;> exact hg
/-- Bytes as cells. -/
def bytesV (l : List UInt8) : List Value := l.map fun b => Value.int .u8 b.toNat
/-- Ints as cells. -/
def intsV (l : List Int) : List Value := l.map (Value.int .i64)
theorem bytesV_one (l : List UInt8) : ∀ u ∈ bytesV l, u.oneCell' = true := by intro u hu; obtain ⟨_, _, rfl⟩ := List.mem_map.1 hu; rfl
theorem intsV_one (l : List Int) : ∀ u ∈ intsV l, u.oneCell' = true := by intro u hu; obtain ⟨_, _, rfl⟩ := List.mem_map.1 hu; rfl
@[simp] theorem bytesV_length (l : List UInt8) : (bytesV l).length = l.length := by simp [bytesV]
@[simp] theorem intsV_length (l : List Int) : (intsV l).length = l.length := by simp [intsV]
theorem bytesV_append (a b : List UInt8) : bytesV (a ++ b) = bytesV a ++ bytesV b := by simp [bytesV]
theorem intsV_append (a b : List Int) : intsV (a ++ b) = intsV a ++ intsV b := by simp [intsV]
/-- A byte slice that can be read ¦ that is one's own. -/
def RdB (w : World) (v : Value) (l : List UInt8) : Prop := Rd w 1 v (bytesV l)
theorem RdB.shape {w : World} {v : Value} {l : List UInt8} (h : RdB w v l) : ∃ a c, v = .slice a l.length c ∧ l.length ≤ c ∧ c ≤ maxLen := by
  have := Rd.shape h
  simpa using this
theorem Rd.sub0 {w : World} {a : Option Addr} {n c : Nat} {xs : List Value} (h : Rd w 1 (.slice a n c) xs) (k m : Nat) (hk : k ≤ n) (hm : k ≤ m) (hmc : m ≤ c) : Rd w 1 (.slice a k m) (xs.take k) := by
  have := Rd.sub h 0 k m (by omega) (by omega) hmc
  have e : subA a 0 m = a := by unfold subA; split; rfl; cases a <;> simp [Addr.add]
  rw [e] at this
  simpa using this
theorem RdB.sub {w : World} {a : Option Addr} {n c : Nat} {l : List UInt8} (h : RdB w (.slice a n c) l) (o k m : Nat) (hk : o + k ≤ n) (hm : o + k ≤ m) (hmc : m ≤ c) : RdB w (.slice (subA a o m) k (m - o)) ((l.drop o).take k) := by
  have := Rd.sub h o k m hk hm hmc
  unfold RdB bytesV at *
  rwa [← List.map_drop, ← List.map_take] at this
theorem RdB.sub0 {w : World} {a : Option Addr} {n c : Nat} {l : List UInt8} (h : RdB w (.slice a n c) l) (k m : Nat) (hk : k ≤ n) (hm : k ≤ m) (hmc : m ≤ c) : RdB w (.slice a k m) (l.take k) := by
  have := Rd.sub0 h k m hk hm hmc
  unfold RdB bytesV at *
  rwa [← List.map_take] at this
theorem RdB.drop {w : World} {a : Option Addr} {c : Nat} {l : List UInt8} (h : RdB w (.slice a l.length c) l) (o : Nat) (ho : o ≤ l.length) (hc : l.length ≤ c) : RdB w (.slice (subA a o c) (l.length - o) (c - o)) (l.drop o) := by
  have := RdB.sub h o (l.length - o) c (by omega) (by omega) (Nat.le_refl _)
  rwa [List.take_of_length_le (by simp)] at this
/-- A new block of one cell: what 'append(s, x)' takes its element from. -/
theorem Src.one {P : Program} {w : World} {tx e' : Nat} (hk : P.underlying tx = some (.slice e')) (b : Nat) (x : Value) (t : TypeId) (fr : Nat × Nat) (hb : w.heap[b]? = some (.cells #[x] t fr)) (h1 : x.oneCell' = true) : Src P 1 tx (.slice (some ⟨b, 0, none⟩) 1 1) 1 [x] w := by
  refine Src.ofSlice w hk _ 1 1 [x] rfl (fun j u hu => ?_) (by simpa using h1)
  match j, hu with
  | 0, hu => simp at hu; subst hu; simp [Addr.add, cell_of_blk hb]
/-- 'append(s, x)' of one element of one cell: x lies in the new block that the operation ahead has laid. -/
theorem wpList_app1 {P : Program} (w : World) {ops : Array Oper} {rest : List Oper} {o : Oper} {a : Act} {Q : Exit → Act → World → Prop} (hgd : o.guard = none) (s x : Operand) (t : TypeId)
    (ho : o.op = .call { callee := .builtin .append, args := #[s, x], argTypes := #[t, t] })
    (e bytes : Nat) (ht : P.underlying t = some (.slice e)) (hE : ElemT P e 1 bytes) {v y : Value} {xs : List Value} (hown : Own w e 1 v xs) (hv : a.eval s = v) (hx : a.eval x = .slice (some ⟨w.heap.size, 0, none⟩) 1 1) (h1 : y.oneCell' = true)
    (hb : (xs.length + 1) * bytes ≤ 140737488355328) (hb0 : 0 < bytes)
    (h : ∀ v' w', Own w' e 1 v' (xs ++ [y]) → Ext (fun k => v.ownBlock = some k) w w' → (v'.ownBlock = v.ownBlock ∨ ∃ g, v'.ownBlock = some g ∧ w.heap.size ≤ g) → wpList P ops Q rest (a.put o.dst v') w') : wpList P ops Q (o :: rest) a (w.alloc (.cells #[y] e)) :=
  wpList_app _ hgd s x t t ho e 1 bytes ht hE (hown.no ((Ext.refl _ w).alloc _)) (Src.one ht _ y e (0, 0) (blk_new w _) h1) hv hx hb hb0 fun v' w' h2 h3 h4 =>
    h v' w' h2 (((Ext.refl _ w).alloc _).trans h3) (h4.imp id fun ⟨g, h, h'⟩ => ⟨g, h, by simp at h'; omega⟩)
theorem Fresh.app {w w1 : World} {v v' : Value} (h : Fresh w v) (hs : w.heap.size ≤ w1.heap.size) (h' : v'.ownBlock = v.ownBlock ∨ ∃ g, v'.ownBlock = some g ∧ w1.heap.size ≤ g) : Fresh w v' := by
  intro g hg
  rcases h' with h' | ⟨g', h', h''⟩
  · exact h g (h' ▸ hg)
  · rw [h'] at hg; cases hg; omega
theorem Fresh.ext {w w1 w2 : World} {v : Value} (h : Fresh w v) (e1 : Ext NoB w w1) (e2 : Ext (fun k => v.ownBlock = some k) w1 w2) : Ext NoB w w2 :=
  e1.next e2 (fun x hx hlt => by have := h x hx; omega)
end Go.Proofs.YtgglbholbkdgfaaGreatDoor
