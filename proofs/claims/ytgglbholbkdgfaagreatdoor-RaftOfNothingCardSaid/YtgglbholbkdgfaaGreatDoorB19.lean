/- Package wal: a log in memory; next, size, last, Bounds. -/
import Derived.Test.YtgglbholbkdgfaaGreatDoorB18
namespace Go.Proofs.YtgglbholbkdgfaaGreatDoor
open Go.RowKit

/-- A segment: the number of its first entry, its entries. -/
structure PSeg where
  first : Nat
  es : List (List UInt8)
/-- The bytes of entries from a number on. -/
def segBytes : Nat → List (List UInt8) → List UInt8
  | _, [] => []
  | n, e :: es => enc (uv n ++ e) ++ segBytes (n + 1) es
/-- Where each entry ends. -/
def segEnds : Nat → Nat → List (List UInt8) → List Nat
  | _, _, [] => []
  | n, at_, e :: es => (at_ + (enc (uv n ++ e)).length) :: segEnds (n + 1) (at_ + (enc (uv n ++ e)).length) es
def PSeg.next (p : PSeg) : Nat := p.first + p.es.length
def PSeg.bytes (p : PSeg) : List UInt8 := segBytes p.first p.es
def PSeg.ends (p : PSeg) : List Nat := segEnds p.first 0 p.es

theorem segEnds_length : ∀ (es : List (List UInt8)) (n a : Nat), (segEnds n a es).length = es.length
  | [], _, _ => rfl
  | e :: es, n, a => by simp [segEnds, segEnds_length es]
theorem segEnds_last : ∀ (es : List (List UInt8)) (n a : Nat), es ≠ [] → (segEnds n a es)[es.length - 1]? = some (a + (segBytes n es).length)
  | [], _, _, h => (h rfl).elim
  | [e], n, a, _ => by simp [segEnds, segBytes]
  | e :: e' :: es, n, a, _ => by
    have := segEnds_last (e' :: es) (n + 1) (a + (enc (uv n ++ e)).length) (by simp)
    simp only [List.length_cons] at this ⊢
    rw [segEnds]
    show ((_ :: _) : List Nat)[es.length + 1 + 1 - 1]? = _
    rw [show es.length + 1 + 1 - 1 = (es.length + 1 - 1) + 1 by omega, List.getElem?_cons_succ, this, segBytes.eq_2 n e (e' :: es), List.length_append, Nat.add_assoc]
theorem segBytes_append : ∀ (es fs : List (List UInt8)) (n : Nat), segBytes n (es ++ fs) = segBytes n es ++ segBytes (n + es.length) fs
  | [], fs, n => by simp [segBytes]
  | e :: es, fs, n => by
    simp only [List.cons_append, segBytes, segBytes_append es fs (n + 1), List.length_cons, List.append_assoc]
    rw [show n + 1 + es.length = n + (es.length + 1) by omega]
theorem segEnds_append : ∀ (es fs : List (List UInt8)) (n a : Nat), segEnds n a (es ++ fs) = segEnds n a es ++ segEnds (n + es.length) (a + (segBytes n es).length) fs
  | [], fs, n, a => by simp [segBytes, segEnds]
  | e :: es, fs, n, a => by
    simp only [List.cons_append, segBytes, segEnds, segEnds_append es fs (n + 1), List.length_cons, List.length_append, List.cons_append]
    rw [show n + 1 + es.length = n + (es.length + 1) by omega, Nat.add_assoc]

/-- A segment in memory. -/
structure RSeg where
  sg : Nat
  p : PSeg
  ev : Value
  nv : Value
  xs : List Value
  dirty : Bool
def RSeg.ptr (r : RSeg) : Value := .pointer (some ⟨r.sg, 0, none⟩)
def natsV (l : List Nat) : List Value := l.map (fun n => .int .i64 (Int.ofNat n))
/-- Bytes that can be read, in a block of bytes. -/
def RdU (w : World) (v : Value) (l : List UInt8) : Prop := RdB w v l ∧ ∀ g, v.ownBlock = some g → ∃ cs fr, w.heap[g]? = some (.cells cs 5 fr)
/-- Entries that can be read, all of them in F. -/
inductive Rows3 (w : World) (F : Nat → Prop) : List Value → List (List UInt8) → Prop
  | nil : Rows3 w F [] []
  | cons {x : Value} {e : List UInt8} {xs : List Value} {es : List (List UInt8)} : RdU w x e → (∀ g, x.ownBlock = some g → F g) → Rows3 w F xs es → Rows3 w F (x :: xs) (e :: es)

structure SegAt (w : World) (F : Nat → Prop) (r : RSeg) : Prop where
  blk : w.heap[r.sg]? = some (.cells #[.int .i64 r.p.first, r.ev, r.nv, .bool r.dirty] 139 (0, 0))
  self : F r.sg
  ents : Own w 35 1 r.ev r.xs
  entsF : ∀ g, r.ev.ownBlock = some g → F g
  ends : Own w 3 1 r.nv (natsV r.p.ends)
  endsF : ∀ g, r.nv.ownBlock = some g → F g
  rows : Rows3 w F r.xs r.p.es
def Apart3 (a b : RSeg) : Prop := a.sg ≠ b.sg ∧ (∀ g, a.ev.ownBlock = some g → b.ev.ownBlock ≠ some g) ∧ (∀ g, a.nv.ownBlock = some g → b.nv.ownBlock ≠ some g)
/-- Segments follow one another, from n on to m. -/
def Chain : Nat → List PSeg → Nat → Prop
  | n, [], m => n = m
  | n, p :: ps, m => p.first = n ∧ p.es ≠ [] ∧ Chain (n + p.es.length) ps m

/-- A log in memory at block L: sv its slice of segments, rs the segments, m the next number. F: its blocks. -/
structure LogAt (w : World) (L d : Nat) (F : Nat → Prop) (pre : ByteArray) (sv : Value) (rs : List RSeg) (m : Nat) : Prop where
  blk : w.heap[L]? = some (.cells #[.pointer (some ⟨d, 0, none⟩), .string pre, sv, .int .i64 m] 134 (0, 0))
  self : F L
  segs : Own w 140 1 sv (rs.map RSeg.ptr)
  segsF : ∀ g, sv.ownBlock = some g → F g
  each : ∀ r ∈ rs, SegAt w F r
  apart : rs.Pairwise Apart3
  chain : Chain 1 (rs.map (·.p)) m
  lt : ∀ b, F b → b < w.heap.size
  m100 : m ≤ 100
  bytes30 : ∀ r ∈ rs, r.p.bytes.length ≤ 1073741824
  preL : pre.size ≤ 55

theorem RdU.ext {w w' : World} {F G : Nat → Prop} {v : Value} {l : List UInt8} (h : RdU w v l) (x : Ext G w w') (hG : Off G v) : RdU w' v l :=
  ⟨Rd.ext h.1 x hG, fun g hg => by obtain ⟨cs, fr, hb⟩ := h.2 g hg; exact ⟨cs, fr, x.blk hb (hG g hg)⟩⟩
theorem Rows3.ext {w w' : World} {F G : Nat → Prop} {xs : List Value} {es : List (List UInt8)} (h : Rows3 w F xs es) (x : Ext G w w') (hG : ∀ g, F g → ∀ cs fr, w.heap[g]? = some (.cells cs 5 fr) → ¬ G g) : Rows3 w' F xs es := by
  induction h with
  | nil => exact .nil
  | cons h1 h2 h3 ih => exact .cons (RdU.ext (F := F) h1 x (fun g hg => by obtain ⟨cs, fr, hb⟩ := h1.2 g hg; exact hG g (h2 g hg) cs fr hb)) h2 ih
theorem Rows3.mono {w : World} {F F' : Nat → Prop} {xs : List Value} {es : List (List UInt8)} (h : Rows3 w F xs es) (hF : ∀ g, F g → F' g) : Rows3 w F' xs es := by
  induction h with
  | nil => exact .nil
  | cons h1 h2 h3 ih => exact .cons h1 (fun g hg => hF g (h2 g hg)) ih
theorem Rows3.length {w : World} {F : Nat → Prop} {xs : List Value} {es : List (List UInt8)} (h : Rows3 w F xs es) : xs.length = es.length := by
  induction h with
  | nil => rfl
  | cons _ _ _ ih => simp [ih]
theorem Rows3.append {w : World} {F : Nat → Prop} {xs ys : List Value} {es fs : List (List UInt8)} (h : Rows3 w F xs es) (h' : Rows3 w F ys fs) : Rows3 w F (xs ++ ys) (es ++ fs) := by
  induction h with
  | nil => exact h'
  | cons h1 h2 _ ih => exact .cons h1 h2 ih
theorem Rows3.get {w : World} {F : Nat → Prop} {xs : List Value} {es : List (List UInt8)} (h : Rows3 w F xs es) : ∀ (i : Nat) (e : List UInt8), es[i]? = some e → ∃ x, xs[i]? = some x ∧ RdU w x e ∧ ∀ g, x.ownBlock = some g → F g := by
  induction h with
  | nil => intro i e h; cases h
  | cons h1 h2 _ ih =>
    intro i e h
    cases i with
    | zero => simp at h; subst h; exact ⟨_, rfl, h1, h2⟩
    | succ i => simpa using ih i e (by simpa using h)
theorem SegAt.ext {w w' : World} {F G : Nat → Prop} {r : RSeg} (h : SegAt w F r) (x : Ext G w w') (hd : ∀ b, F b → ¬ G b) : SegAt w' F r :=
  ⟨x.blk h.blk (hd _ h.self), h.self, h.ents.ext x (fun g hg => hd g (h.entsF g hg)), h.entsF, h.ends.ext x (fun g hg => hd g (h.endsF g hg)), h.endsF, h.rows.ext x (fun g hg _ _ _ => hd g hg)⟩
theorem LogAt.ext {w w' : World} {L d : Nat} {F G : Nat → Prop} {pre : ByteArray} {sv : Value} {rs : List RSeg} {m : Nat} (h : LogAt w L d F pre sv rs m) (x : Ext G w w') (hd : ∀ b, F b → ¬ G b) : LogAt w' L d F pre sv rs m :=
  ⟨x.blk h.blk (hd _ h.self), h.self, h.segs.ext x (fun g hg => hd g (h.segsF g hg)), h.segsF, fun r hr => (h.each r hr).ext x hd, h.apart, h.chain, fun b hb => Nat.lt_of_lt_of_le (h.lt b hb) x.size, h.m100, h.bytes30, h.preL⟩
theorem LogAt.no {w w' : World} {L d : Nat} {F : Nat → Prop} {pre : ByteArray} {sv : Value} {rs : List RSeg} {m : Nat} (h : LogAt w L d F pre sv rs m) (x : Ext NoB w w') : LogAt w' L d F pre sv rs m := h.ext x (fun _ _ h => h)

theorem retInt {a b : Int} (h : a = b) : Ending.returned (.int .i64 a) = Ending.returned (.int .i64 b) := by rw [h]
theorem Chain.le : ∀ {n : Nat} {ps : List PSeg} {m : Nat}, Chain n ps m → n ≤ m ∧ ∀ p ∈ ps, n ≤ p.first ∧ p.next ≤ m
  | n, [], m, h => ⟨Nat.le_of_eq h, fun p hp => by cases hp⟩
  | n, p :: ps, m, h => by
    obtain ⟨h1, h2, h3⟩ := h
    obtain ⟨h4, h5⟩ := Chain.le h3
    refine ⟨by omega, fun q hq => ?_⟩
    rcases List.mem_cons.1 hq with rfl | hq
    · unfold PSeg.next; omega
    · have := h5 q hq; omega

set_option maxRecDepth 100000 in
set_option maxHeartbeats 400000 in
theorem next_any (F : Nat → Prop) (r : RSeg) (w : World) (h : SegAt w F r) (hb : r.p.next ≤ 100) :
    Calls Tryz.prog 101 #[r.ptr] w fun e w' => e = .returned (.int .i64 r.p.next) ∧ Ext NoB w w' := by
  obtain ⟨a, c, hv, hn, hc⟩ := Rd.shape h.ents.rd
  have hlen := h.rows.length
  have c0 : w.cell? ⟨r.sg, 0, none⟩ = some (.int .i64 r.p.first) := by rw [cell_of_blk h.blk]; rfl
  have c1 : w.cell? ⟨r.sg, 1, none⟩ = some r.ev := by rw [cell_of_blk h.blk]; rfl
  rw [hv, hlen] at c1
  unfold PSeg.next at hb ⊢
  have hw : IntKind.i64.wrap ((r.p.first : Int) + (r.p.es.length : Int)) = ((r.p.first + r.p.es.length : Nat) : Int) := by rw [IntWalk.i64_in _ (by omega)]; omega
  clear h hv
  unfold RSeg.ptr
  go_enter Tryz.func101, Tryz.ntmps101
  go_wp2_with fail
  go_quiet (fail)
  go_wp2_with fail
  go_ret
  exact ⟨retInt (by omega), (Ext.refl _ w).drewN _⟩

set_option maxRecDepth 100000 in
set_option maxHeartbeats 400000 in
theorem size_of (sg : Nat) (nv : Value) (p : PSeg) (w : World) (c2 : w.cell? ⟨sg, 2, none⟩ = some nv) (ho : Own w 3 1 nv (natsV p.ends)) :
    Calls Tryz.prog 117 #[.pointer (some ⟨sg, 0, none⟩)] w fun e w' => e = .returned (.int .i64 p.bytes.length) ∧ Ext NoB w w' := by
  obtain ⟨a, c, hv, hn, hc⟩ := Rd.shape ho.rd
  have hlen : (natsV p.ends).length = p.es.length := by simp [natsV, PSeg.ends, segEnds_length]
  rw [hlen] at hv hn
  by_cases he : p.es = []
  · have e0 : p.es.length = 0 := by rw [he]; rfl
    rw [hv, e0] at c2
    have eb : p.bytes = [] := by unfold PSeg.bytes; rw [he]; rfl
    rw [eb]
    clear ho hv
    go_enter Tryz.func117, Tryz.ntmps117
    go_wp2_with fail
    go_ret
    exact ⟨rfl, Ext.refl _ w⟩
  · have hpos : 0 < p.es.length := List.length_pos_iff.2 he
    have hl := segEnds_last p.es p.first 0 he
    obtain ⟨a', n', c', hv', _, _, _, _, hr⟩ := ho.rd
    rw [hv] at hv'; cases hv'
    have hne : natsV p.ends ≠ [] := by intro e; rw [e] at hlen; simp at hlen; omega
    obtain ⟨b, off, rfl, _⟩ := hr hne
    have hr : ∀ (j : Nat) (u : Value), (natsV p.ends)[j]? = some u → w.cell? ⟨b, off + j, none⟩ = some u := by
      obtain ⟨b', off', hbo, hr'⟩ := hr hne
      cases hbo
      exact hr'
    have ce : w.cell? ⟨b, off + (p.es.length - 1), none⟩ = some (.int .i64 p.bytes.length) := by
      refine hr _ _ ?_
      unfold natsV PSeg.ends
      rw [List.getElem?_map, hl]
      simp [PSeg.bytes]
    rw [hv] at c2
    have hw : IntKind.i64.wrap ((p.es.length : Int) - 1) = ((p.es.length - 1 : Nat) : Int) := by rw [IntWalk.i64_in _ (by unfold maxLen at hc; omega)]; omega
    have hz : ((p.es.length : Nat) : Int) ≠ 0 := by omega
    have hw0 : (0 : Int) ≤ ((p.es.length - 1 : Nat) : Int) := by omega
    have hw1 : ((p.es.length - 1 : Nat) : Int) < ((p.es.length : Nat) : Int) := by omega
    have hwn : (((p.es.length - 1 : Nat) : Int)).toNat = p.es.length - 1 := by omega
    clear ho hv hr hl hne
    go_enter Tryz.func117, Tryz.ntmps117
    go_wp2_with fail
    go_quiet (fail)
    go_wp2_with fail
    go_ret
    exact ⟨rfl, (Ext.refl _ w).drewN _⟩
theorem size_any (F : Nat → Prop) (r : RSeg) (w : World) (h : SegAt w F r) :
    Calls Tryz.prog 117 #[r.ptr] w fun e w' => e = .returned (.int .i64 r.p.bytes.length) ∧ Ext NoB w w' :=
  size_of r.sg r.nv r.p w (by rw [cell_of_blk h.blk]; rfl) h.ends
/-- Two slices of one's own with elements of two types lie in two blocks. -/
theorem own_apart {w : World} {e e' s s' : Nat} {v v' : Value} {xs xs' : List Value} (h : Own w e s v xs) (h' : Own w e' s' v' xs') (hne : e ≠ e') : Off (fun b => v.ownBlock = some b) v' := by
  intro g hg hb
  rcases h with ⟨rfl, _⟩ | ⟨g1, n, cap, cur, rfl, hb1, _⟩
  · cases hb
  · simp [Value.ownBlock] at hb
    subst hb
    exact h'.ne_blk hb1 hne g1 hg rfl
end Go.Proofs.YtgglbholbkdgfaaGreatDoor
