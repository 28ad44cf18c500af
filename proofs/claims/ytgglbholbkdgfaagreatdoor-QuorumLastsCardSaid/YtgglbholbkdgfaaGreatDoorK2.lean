/- Joined texts: B6 B7 B7L B8 B9 B10. Each has its own head. -/
import Derived.ChangeMaps4
import Derived.ChangeMaps5
import Derived.MapKept
import Derived.Maps.Own
import Derived.StillTailTactics
import Derived.Test.YtgglbholbkdgfaaGreatDoorK1
set_option linter.unusedVariables false
set_option linter.unusedSimpArgs false
namespace Go.Proofs.YtgglbholbkdgfaaGreatDoor
open Go.RowKit Go.MapKept
def MapIs (w : World) (m : Nat) (kv : List (ByteArray × Value)) : Prop :=
 ∃ es clock, w.heap[m]? = some (.map es clock) ∧ Stamped es clock ∧ es.toList.map (fun e => (e.key, e.val)) = kv.map (fun p => (Value.string p.1, p.2))
def kvGet (kv : List (ByteArray × Value)) (s : ByteArray) : Option Value := (kv.find? (fun p => decide (p.1 = s))).map (·.2)
def kvPut (kv : List (ByteArray × Value)) (s : ByteArray) (v : Value) : List (ByteArray × Value) :=
 if (kvGet kv s).isSome then kv.map (fun p => if p.1 = s then (s, v) else p) else kv ++ [(s, v)]
def kvDel (kv : List (ByteArray × Value)) (s : ByteArray) : List (ByteArray × Value) := kv.filter (fun p => decide (p.1 ≠ s))
theorem MapIs.lt {w : World} {m : Nat} {kv : List (ByteArray × Value)} (h : MapIs w m kv) : m < w.heap.size := by obtain ⟨_, _, hb, _⟩ := h; exact lt_of_blk hb
theorem MapIs.ext {w w' : World} {F : Nat → Prop} {m : Nat} {kv : List (ByteArray × Value)} (h : MapIs w m kv) (x : Ext F w w') (hF : ¬ F m) : MapIs w' m kv := by
 obtain ⟨es, clock, hb, r⟩ := h
 exact ⟨es, clock, x.blk hb hF, r⟩
theorem MapIs.ne_blk {w : World} {m : Nat} {kv : List (ByteArray × Value)} (h : MapIs w m kv) {b : Nat} {cs : Array Value} {t : TypeId} {fr : Nat × Nat} (hb : w.heap[b]? = some (.cells cs t fr)) : m ≠ b := by
 obtain ⟨es, c, hm, _⟩ := h
 rintro rfl
 rw [hb] at hm; cases hm
theorem MapIs.ne_own {w : World} {m : Nat} {kv : List (ByteArray × Value)} (h : MapIs w m kv) {e size : Nat} {v : Value} {xs : List Value} (ho : Own w e size v xs) : ∀ g, v.ownBlock = some g → m ≠ g := by
 obtain ⟨es, c, hm, _⟩ := h
 exact ho.ne_map hm
theorem MapIs.nodup {w : World} {m : Nat} {kv : List (ByteArray × Value)} (h : MapIs w m kv) : (kv.map (·.1)).Nodup := by
 obtain ⟨es, clock, hb, hs, he⟩ := h
 have h3 := hs.2.2
 have : es.toList.map (·.key) = (kv.map (·.1)).map Value.string := by
  have := congrArg (List.map Prod.fst) he
  simp only [List.map_map] at this ⊢
  exact this
 rw [this] at h3
 exact List.Pairwise.of_map Value.string (fun a b h e => h (by rw [e])) h3
theorem MapIs.len {es : Array MapEntry} {kv : List (ByteArray × Value)} (h : es.toList.map (fun e => (e.key, e.val)) = kv.map (fun p => (Value.string p.1, p.2))) : es.size = kv.length := by
 have := congrArg List.length h
 simpa using this
theorem map_eraseIdx' {α β : Type} (f : α → β) : ∀ (l : List α) (i : Nat), (l.eraseIdx i).map f = (l.map f).eraseIdx i
 | [], _ => by simp
 | a :: l, 0 => by simp
 | a :: l, i + 1 => by simp [map_eraseIdx' f l i]
theorem find_kv (s : ByteArray) : ∀ (es : List MapEntry) (kv : List (ByteArray × Value)) (i : Nat), es.map (fun e => (e.key, e.val)) = kv.map (fun p => (Value.string p.1, p.2)) →
  (Instr.findNow .string (.string s) es i = some none ∧ kvGet kv s = none ∧ s ∉ kv.map (·.1)) ∨ ∃ j v, Instr.findNow .string (.string s) es i = some (some (i + j, v)) ∧ kvGet kv s = some v ∧ kv[j]? = some (s, v)
 | [], [], _, _ => .inl ⟨rfl, rfl, by simp⟩
 | [], _ :: _, _, h => by simp at h
 | _ :: _, [], _, h => by simp at h
 | e :: es, p :: kv, i, h => by
  simp only [List.map_cons, List.cons.injEq, Prod.mk.injEq] at h
  obtain ⟨⟨hk, hv⟩, ht⟩ := h
  have hs : Instr.sameNow .string (.string s) e.key = some (s == p.1) := by rw [hk]; rfl
  by_cases heq : p.1 = s
  ·have hb : (s == p.1) = true := (bytes_beq _ _).2 heq.symm
   refine .inr ⟨0, e.val, ?_, ?_, ?_⟩
   ·simp [Instr.findNow, hs, hb]
   ·simp [kvGet, List.find?, heq, hv]
   ·simp [← heq, hv]
  ·have hb : (s == p.1) = false := by
    rcases h : (s == p.1) with _ | _
    ·rfl
    ·exact (heq ((bytes_beq _ _).1 h).symm).elim
   rcases find_kv s es kv (i + 1) ht with ⟨h1, h2, h3⟩ | ⟨j, v, h1, h2, h3⟩
   ·refine .inl ⟨by simp [Instr.findNow, hs, hb, h1], ?_, ?_⟩
    ·simpa [kvGet, List.find?, heq] using h2
    ·simp only [List.map_cons, List.mem_cons, not_or]; exact ⟨fun e => heq e.symm, h3⟩
   ·refine .inr ⟨j + 1, v, ?_, ?_, by simpa using h3⟩
    ·simp [Instr.findNow, hs, hb, h1]; omega
    ·simpa [kvGet, List.find?, heq] using h2
section
variable {P : Program} {T K E : TypeId} (hm : P.underlying T = some (.map K E)) (hk : P.underlying K = some .string)
include hm hk
theorem run_look {w : World} {m : Nat} {kv : List (ByteArray × Value)} (h : MapIs w m kv) (s : ByteArray) (z : Value) (hz : (zeroValue E).run P w = .ok z w) :
  (Instr.lookup T (.map (some m)) (.string s) true).run P w = .ok (.tuple #[(kvGet kv s).getD z, .bool (kvGet kv s).isSome]) w ∧
  (Instr.lookup T (.map (some m)) (.string s) false).run P w = .ok ((kvGet kv s).getD z) w := by
 obtain ⟨es, clock, hb, hs, he⟩ := h
 have hchk : ∀ b, (Instr.checkKey b 10000 K (.string s)).run P w = .ok () w := fun b => run_checkKey hk (show IsKey .string (.string s) from trivial) b 9999
 rcases find_kv s es.toList kv 0 he with ⟨h1, h2, _⟩ | ⟨j, v, h1, h2, _⟩
 ·have hf := run_findKey (w := w) hk h1
  constructor <;> simp [Instr.lookup, run_underlying hm, MapKept.run_getObj_map hb, hchk, hf, hz, h2, Result.andThen]
 ·have hf := run_findKey (w := w) hk h1
  constructor <;> simp [Instr.lookup, run_underlying hm, MapKept.run_getObj_map hb, hchk, hf, h2, Result.andThen]
theorem run_look_nil {w : World} (s : ByteArray) (z : Value) (hz : (zeroValue E).run P w = .ok z w) :
  (Instr.lookup T (.map none) (.string s) true).run P w = .ok (.tuple #[z, .bool false]) w ∧ (Instr.lookup T (.map none) (.string s) false).run P w = .ok z w := by
 have hchk : ∀ b, (Instr.checkKey b 10000 K (.string s)).run P w = .ok () w := fun b => run_checkKey hk (show IsKey .string (.string s) from trivial) b 9999
 have hf : (Instr.findKey K (.string s) []).run P w = .ok none w := run_findKey hk rfl
 constructor <;> simp [Instr.lookup, run_underlying hm, hchk, hf, hz, Result.andThen]
theorem run_put {w : World} {m : Nat} {kv : List (ByteArray × Value)} (h : MapIs w m kv) (s : ByteArray) (v : Value) :
  ∃ w', (Instr.mapUpdate T (.map (some m)) (.string s) v).run P w = .ok () w' ∧ MapIs w' m (kvPut kv s v) ∧ Ext (OneB m) w w' ∧ w'.heap.size = w.heap.size := by
 have hnd := h.nodup
 obtain ⟨es, clock, hb, hs, he⟩ := h
 have hchk : ∀ b, (Instr.checkKey b 10000 K (.string s)).run P w = .ok () w := fun b => run_checkKey hk (show IsKey .string (.string s) from trivial) b 9999
 have hext : ∀ o, Ext (OneB m) w { w with heap := w.heap.setIfInBounds m o } := fun o => ⟨rfl, rfl, rfl, by simp, fun k _ hne => (heap_set hb).2 k hne⟩
 rcases find_kv s es.toList kv 0 he with ⟨h1, h2, h3⟩ | ⟨j, u, h1, h2, h3⟩
 ·have hf := run_findKey (w := w) hk h1
  refine ⟨{ w with heap := w.heap.setIfInBounds m (.map (es.push { key := .string s, val := v, born := clock }) (clock + 1)) }, ?_, ⟨_, _, (heap_set hb).1, stamped_push hs ?_, ?_⟩, hext _, by simp⟩
  ·simp [Instr.mapUpdate, run_underlying hm, MapKept.run_getObj_map hb, hchk, hf, MapKept.run_setObj_map _ hb, Result.andThen]
  ·intro x hx e
   have : (x.key, x.val) ∈ es.toList.map (fun e => (e.key, e.val)) := List.mem_map.2 ⟨x, hx, rfl⟩
   rw [he] at this
   obtain ⟨p, hp, hpe⟩ := List.mem_map.1 this
   have hpk : Value.string p.1 = x.key := congrArg Prod.fst hpe
   rw [e] at hpk
   injection hpk with hpk
   exact h3 (List.mem_map.2 ⟨p, hp, hpk⟩)
  ·simp [kvPut, h2, he]
 ·have hf := run_findKey (w := w) hk h1
  have hj : j < kv.length := (List.getElem?_eq_some_iff.1 h3).1
  have hsz := MapIs.len he
  have hje : ∃ e, es[j]? = some e ∧ e.key = .string s := by
   have := congrArg (fun l => l[j]?) he
   simp only [List.getElem?_map, h3, Array.getElem?_toList, Option.map_some] at this
   cases hq : es[j]? with
   | none => rw [hq] at this; cases this
   | some e => rw [hq] at this; simp at this; exact ⟨e, rfl, this.1⟩
  obtain ⟨e, hej, hek⟩ := hje
  refine ⟨{ w with heap := w.heap.setIfInBounds m (.map (es.modify j fun e => { e with key := .string s, val := v }) clock) }, ?_, ⟨_, _, (heap_set hb).1, stamped_modify hs j _ (by intro e _; rfl) ?_, ?_⟩, hext _, by simp⟩
  ·have hst := run_keyThatStays (P := P) (w := w) (show IsKey .string (.string s) from trivial)
   simp [Instr.mapUpdate, run_underlying hm, MapKept.run_getObj_map hb, hchk, hf, hej, hek, hst, MapKept.run_setObj_map _ hb, Result.andThen]
  ·intro e' _ he'
   rw [hej] at he'; cases he'; exact hek.symm
  ·rw [kvPut, h2]
   simp only [Option.isSome_some, if_true]
   apply List.ext_getElem?
   intro i
   have hi := congrArg (fun l => l[i]?) he
   simp only [List.getElem?_map, Array.getElem?_toList] at hi
   simp only [List.getElem?_map, Array.getElem?_toList, Array.getElem?_modify]
   by_cases hij : j = i
   ·subst hij
    simp [hej, h3]
   ·rw [if_neg hij]
    rw [hi]
    cases hki : kv[i]? with
    | none => rfl
    | some p =>
     have hne : p.1 ≠ s := by
      intro hps
      have h1' : (kv.map (·.1))[i]? = some s := by simp [hki, hps]
      have h2' : (kv.map (·.1))[j]? = some s := by simp [h3]
      exact hij ((List.getElem?_inj (by simpa using hj) hnd).1 (h2'.trans h1'.symm))
     simp [hne]
theorem run_del {w : World} {m : Nat} {kv : List (ByteArray × Value)} (h : MapIs w m kv) (s : ByteArray) (ty : TypeId) :
  ∃ w', (Builtin.delete_ #[T, K] ty #[.map (some m), .string s]).run P w = .ok (.tuple #[]) w' ∧ MapIs w' m (kvDel kv s) ∧ Ext (OneB m) w w' ∧ w'.heap.size = w.heap.size := by
 have hnd := h.nodup
 obtain ⟨es, clock, hb, hs, he⟩ := h
 have hchk : ∀ b, (Instr.checkKey b 10000 K (.string s)).run P w = .ok () w := fun b => run_checkKey hk (show IsKey .string (.string s) from trivial) b 9999
 have hext : ∀ o, Ext (OneB m) w { w with heap := w.heap.setIfInBounds m o } := fun o => ⟨rfl, rfl, rfl, by simp, fun k _ hne => (heap_set hb).2 k hne⟩
 rcases find_kv s es.toList kv 0 he with ⟨h1, h2, h3⟩ | ⟨j, u, h1, h2, h3⟩
 ·have hf := run_findKey (w := w) hk h1
  refine ⟨{ w with heap := w.heap.setIfInBounds m (.map es clock) }, ?_, ⟨_, _, (heap_set hb).1, hs, ?_⟩, hext _, by simp⟩
  ·simp [Builtin.delete_, run_underlying hm, MapKept.run_getObj_map hb, hchk, hf, MapKept.run_setObj_map _ hb, Result.andThen]
  ·have : kvDel kv s = kv := by
    unfold kvDel
    rw [List.filter_eq_self]
    intro p hp
    simp only [decide_eq_true_eq]
    intro e
    exact h3 (List.mem_map.2 ⟨p, hp, e⟩)
   rw [this]; exact he
 ·have hf := run_findKey (w := w) hk h1
  have hj : j < kv.length := (List.getElem?_eq_some_iff.1 h3).1
  have hsz := MapIs.len he
  refine ⟨{ w with heap := w.heap.setIfInBounds m (.map (es.eraseIdxIfInBounds j) clock) }, ?_, ⟨_, _, (heap_set hb).1, stamped_erase hs j, ?_⟩, hext _, by simp⟩
  ·simp [Builtin.delete_, run_underlying hm, MapKept.run_getObj_map hb, hchk, hf, MapKept.run_setObj_map _ hb, Result.andThen]
  ·have e1 : (es.eraseIdxIfInBounds j).toList = es.toList.eraseIdx j := by
    unfold Array.eraseIdxIfInBounds
    rw [dif_pos (by omega)]
    simp
   rw [e1, map_eraseIdx', he, ← map_eraseIdx']
   congr 1
   unfold kvDel
   have : ∀ (kv : List (ByteArray × Value)) (j : Nat), (kv.map (·.1)).Nodup → kv[j]? = some (s, u) → kv.eraseIdx j = kv.filter (fun p => decide (p.1 ≠ s)) := by
    intro kv
    induction kv with
    | nil => intro j _ h; simp at h
    | cons p kv ih =>
     intro j hn h
     simp only [List.map_cons, List.nodup_cons] at hn
     cases j with
     | zero =>
      simp at h; subst h
      have : kv.filter (fun p => decide (p.1 ≠ s)) = kv := by
       rw [List.filter_eq_self]
       intro q hq
       simp only [decide_eq_true_eq]
       intro e
       exact hn.1 (List.mem_map.2 ⟨q, hq, e⟩)
      simp only [List.eraseIdx_zero, List.tail_cons]
      rw [List.filter_cons_of_neg (by simp), this]
     | succ j =>
      simp only [List.getElem?_cons_succ] at h
      have hp : p.1 ≠ s := fun e => hn.1 (List.mem_map.2 ⟨(s, u), List.mem_of_getElem? h, e.symm⟩)
      rw [List.eraseIdx_cons_succ, List.filter_cons_of_pos (by simpa using hp), ih j hn.2 h]
   exact this kv j hnd h3
theorem wpList_del {w : World} {ops : Array Oper} {rest : List Oper} {o : Oper} {a : Act} {Q : Exit → Act → World → Prop} (hg : o.guard = none) (mo x : Operand)
  (hop : o.op = Op.call { callee := Callee.builtin Builtin.delete, args := #[mo, x], argTypes := #[T, K] }) {m : Nat} {kv : List (ByteArray × Value)} (h : MapIs w m kv) (s : ByteArray)
  (hmo : a.eval mo = .map (some m)) (hx : a.eval x = .string s)
  (hK : ∀ w', MapIs w' m (kvDel kv s) → Ext (OneB m) w w' → w'.heap.size = w.heap.size → wpList P ops Q rest (a.put o.dst (.tuple #[])) w') : wpList P ops Q (o :: rest) a w := by
 refine wpList_plain hg fun K' hK' => ?_
 obtain ⟨w', hrun, r1, r2, r3⟩ := run_del hm hk h s o.type
 unfold Oper.wp
 simp [execOp, hop, resolve, invoke, builtin, hmo, hx, hrun, Result.andThen]
 exact hK' _ _ (hK w' r1 r2 r3)
end
theorem MapIs.setCell {w : World} {m : Nat} {kv : List (ByteArray × Value)} (h : MapIs w m kv) {p : Addr} (hne : m ≠ p.block) (v : Value) : MapIs (w.setCell p v) m kv :=
 h.ext (F := OneB p.block) ((Ext.refl (OneB p.block) w).setCell (.inl rfl) v) hne
end Go.Proofs.YtgglbholbkdgfaaGreatDoor
namespace Go.Proofs.YtgglbholbkdgfaaGreatDoor
open Go.RowKit
structure PFile where
 data : List UInt8
 lasts : Nat
structure PDisk where
 room : Nat
 files : List (ByteArray × PFile)
structure RFile where
 name : ByteArray
 v : Value
 f : PFile
def RFile.kv (r : RFile) : ByteArray × Value := (r.name, .agg #[r.v, .int .i64 r.f.lasts])
def RFile.pf (r : RFile) : ByteArray × PFile := (r.name, r.f)
def usedL (fs : List (ByteArray × PFile)) : Nat := (fs.map (fun p => p.2.data.length)).sum
def fsGet (fs : List (ByteArray × PFile)) (s : ByteArray) : Option PFile := (fs.find? (fun p => decide (p.1 = s))).map (·.2)
def rsGet (rs : List RFile) (s : ByteArray) : Option RFile := rs.find? (fun r => decide (r.name = s))
structure Rows2 (w : World) (F : Nat → Prop) (rs : List RFile) : Prop where
 own : ∀ r ∈ rs, Own w 5 1 r.v (bytesV r.f.data)
 foot : ∀ r ∈ rs, ∀ g, r.v.ownBlock = some g → F g
 apart : rs.Pairwise (fun a b => ∀ g, a.v.ownBlock = some g → b.v.ownBlock ≠ some g)
def MapOf (w : World) (F : Nat → Prop) (mo : Option Nat) (rs : List RFile) : Prop :=
 (mo = none ∧ rs = []) ∨ ∃ m, mo = some m ∧ F m ∧ MapIs w m (rs.map RFile.kv)
structure DiskAt (w : World) (d : Nat) (F : Nat → Prop) (room : Nat) (mo : Option Nat) (rs : List RFile) : Prop where
 blk : w.heap[d]? = some (.cells #[.int .i64 room, .int .i64 (usedL (rs.map RFile.pf)), .map mo] 87 (0, 0))
 self : F d
 map : MapOf w F mo rs
 rows : Rows2 w F rs
 lt : ∀ b, F b → b < w.heap.size
 room30 : room ≤ 1073741824
 fits : usedL (rs.map RFile.pf) ≤ room
 names : ∀ r ∈ rs, 1 ≤ r.name.size ∧ r.name.size ≤ 64
 count : rs.length ≤ 256
def DiskIs (w : World) (d : Nat) (F : Nat → Prop) (D : PDisk) : Prop := ∃ mo rs, DiskAt w d F D.room mo rs ∧ D.files = rs.map RFile.pf
theorem Rows2.ext {w w' : World} {F G : Nat → Prop} {rs : List RFile} (h : Rows2 w F rs) (x : Ext G w w') (hd : ∀ b, F b → ¬ G b) : Rows2 w' F rs :=
 ⟨fun r hr => (h.own r hr).ext x (fun g hg => hd g (h.foot r hr g hg)), h.foot, h.apart⟩
theorem MapOf.ext {w w' : World} {F G : Nat → Prop} {mo : Option Nat} {rs : List RFile} (h : MapOf w F mo rs) (x : Ext G w w') (hd : ∀ b, F b → ¬ G b) : MapOf w' F mo rs := by
 rcases h with h | ⟨m, h1, h2, h3⟩
 ·exact .inl h
 ·exact .inr ⟨m, h1, h2, h3.ext x (hd m h2)⟩
theorem DiskAt.ext {w w' : World} {d : Nat} {F G : Nat → Prop} {room : Nat} {mo : Option Nat} {rs : List RFile} (h : DiskAt w d F room mo rs) (x : Ext G w w') (hd : ∀ b, F b → ¬ G b) : DiskAt w' d F room mo rs :=
 ⟨x.blk h.blk (hd d h.self), h.self, h.map.ext x hd, h.rows.ext x hd, fun b hb => Nat.lt_of_lt_of_le (h.lt b hb) x.size, h.room30, h.fits, h.names, h.count⟩
theorem DiskAt.no {w w' : World} {d : Nat} {F : Nat → Prop} {room : Nat} {mo : Option Nat} {rs : List RFile} (h : DiskAt w d F room mo rs) (x : Ext NoB w w') : DiskAt w' d F room mo rs := h.ext x (fun _ _ h => h)
theorem DiskIs.ext {w w' : World} {d : Nat} {F G : Nat → Prop} {D : PDisk} (h : DiskIs w d F D) (x : Ext G w w') (hd : ∀ b, F b → ¬ G b) : DiskIs w' d F D := by
 obtain ⟨mo, rs, h, e⟩ := h
 exact ⟨mo, rs, h.ext x hd, e⟩
theorem DiskIs.no {w w' : World} {d : Nat} {F : Nat → Prop} {D : PDisk} (h : DiskIs w d F D) (x : Ext NoB w w') : DiskIs w' d F D := h.ext x (fun _ _ h => h)
theorem DiskIs.lt {w : World} {d : Nat} {F : Nat → Prop} {D : PDisk} (h : DiskIs w d F D) : ∀ b, F b → b < w.heap.size := by obtain ⟨_, _, h, _⟩ := h; exact h.lt
theorem rsGet_kv (rs : List RFile) (s : ByteArray) : kvGet (rs.map RFile.kv) s = (rsGet rs s).map (fun r => .agg #[r.v, .int .i64 r.f.lasts]) := by
 unfold kvGet rsGet
 induction rs with
 | nil => rfl
 | cons r rs ih =>
  simp only [List.map_cons, List.find?_cons]
  by_cases h : r.name = s
  ·simp [RFile.kv, h]
  ·simpa [RFile.kv, h] using ih
theorem rsGet_pf (rs : List RFile) (s : ByteArray) : fsGet (rs.map RFile.pf) s = (rsGet rs s).map (·.f) := by
 unfold fsGet rsGet
 induction rs with
 | nil => rfl
 | cons r rs ih =>
  simp only [List.map_cons, List.find?_cons]
  by_cases h : r.name = s
  ·simp [RFile.pf, h]
  ·simpa [RFile.pf, h] using ih
theorem rsGet_mem {rs : List RFile} {s : ByteArray} {r : RFile} (h : rsGet rs s = some r) : r ∈ rs ∧ r.name = s := by
 have := List.find?_some h
 exact ⟨List.mem_of_find?_eq_some h, by simpa using this⟩
theorem used_mem {rs : List RFile} {r : RFile} (h : r ∈ rs) : r.f.data.length ≤ usedL (rs.map RFile.pf) := by
 unfold usedL
 induction rs with
 | nil => cases h
 | cons x rs ih =>
  simp only [List.map_cons, List.sum_cons]
  cases h with
  | head => simp [RFile.pf]
  | tail _ h => have := ih h; omega
theorem zeroFile (w : World) : (zeroValue 109).run Tryz.prog w = .ok (.agg #[.slice none 0 0, .int .i64 0]) w := by kernel_rfl
theorem unMap : Tryz.prog.underlying 85 = some (.map 9 109) := Tryz.underlying85
theorem unString : Tryz.prog.underlying 9 = some .string := Tryz.underlying9
theorem DiskAt.look {w : World} {d : Nat} {F : Nat → Prop} {room : Nat} {mo : Option Nat} {rs : List RFile} (h : DiskAt w d F room mo rs) (s : ByteArray) :
  (rsGet rs s = none → ∀ w', Ext NoB w w' → (Instr.lookup 85 (.map mo) (.string s) true).run Tryz.prog w' = .ok (.tuple #[.agg #[.slice none 0 0, .int .i64 0], .bool false]) w' ∧ (Instr.lookup 85 (.map mo) (.string s) false).run Tryz.prog w' = .ok (.agg #[.slice none 0 0, .int .i64 0]) w') ∧
  (∀ r, rsGet rs s = some r → ∀ w', Ext NoB w w' → (Instr.lookup 85 (.map mo) (.string s) true).run Tryz.prog w' = .ok (.tuple #[.agg #[r.v, .int .i64 r.f.lasts], .bool true]) w' ∧ (Instr.lookup 85 (.map mo) (.string s) false).run Tryz.prog w' = .ok (.agg #[r.v, .int .i64 r.f.lasts]) w') := by
 rcases h.map with ⟨rfl, rfl⟩ | ⟨m, rfl, _, hm⟩
 ·refine ⟨fun _ w' _ => run_look_nil unMap unString s _ (zeroFile w'), fun r hr => by cases hr⟩
 ·refine ⟨fun hn w' x => ?_, fun r hr w' x => ?_⟩
  ·have := run_look (P := Tryz.prog) unMap unString (hm.ext x (fun h => h)) s _ (zeroFile w')
   rw [rsGet_kv, hn] at this
   exact this
  ·have := run_look (P := Tryz.prog) unMap unString (hm.ext x (fun h => h)) s _ (zeroFile w')
   rw [rsGet_kv, hr] at this
   exact this
theorem retBool {a b : Bool} (h : a = b) : Ending.returned (.bool a) = Ending.returned (.bool b) := by rw [h]
def isNm (s : ByteArray) : Bool := decide (1 ≤ s.size ∧ s.size ≤ 64)
set_option maxRecDepth 100000 in
set_option maxHeartbeats 400000 in
theorem isName_any (s : ByteArray) (w : World) : Calls Tryz.prog 131 #[.string s] w fun e w' => e = .returned (.bool (isNm s)) ∧ w = w' := by
 by_cases h1 : 1 ≤ s.size
 ·go_enter Tryz.func131, Tryz.ntmps131
  go_wp2_with fail
  go_ret
  refine ⟨retBool ?_, rfl⟩
  unfold isNm
  simp [h1]; omega
 ·go_enter Tryz.func131, Tryz.ntmps131
  go_wp2_with fail
  go_ret
  refine ⟨retBool ?_, rfl⟩
  unfold isNm
  simp [h1]
set_option maxRecDepth 100000 in
set_option maxHeartbeats 400000 in
theorem of_none (d : Nat) (F : Nat → Prop) (room : Nat) (mo : Option Nat) (rs : List RFile) (s : ByteArray) (w : World) (hd : DiskAt w d F room mo rs) (hs : rsGet rs s = none) :
  Calls Tryz.prog 96 #[.pointer (some ⟨d, 0, none⟩), .string s] w fun e w' => e = .returned (.tuple #[.agg #[.slice none 0 0, .int .i64 0], .bool false]) ∧ Ext NoB w w' := by
 have hc : w.cell? ⟨d, 2, none⟩ = some (.map mo) := by rw [cell_of_blk hd.blk]; rfl
 have hdl := lt_of_blk hd.blk
 have hl := ((hd.look s).1 hs _ ((Ext.refl NoB w).alloc (.cells #[.slice none 0 0, .int .i64 0] 109))).1
 clear hd hs
 go_enter Tryz.func96, Tryz.ntmps96
 go_wp2_with fail
 go_returns
 exact ⟨rfl, ((Ext.refl _ w).alloc _).alloc _⟩
set_option maxRecDepth 100000 in
set_option maxHeartbeats 400000 in
theorem of_some (d : Nat) (F : Nat → Prop) (room : Nat) (mo : Option Nat) (rs : List RFile) (s : ByteArray) (w : World) (hd : DiskAt w d F room mo rs) (r : RFile) (hs : rsGet rs s = some r) :
  Calls Tryz.prog 96 #[.pointer (some ⟨d, 0, none⟩), .string s] w fun e w' => e = .returned (.tuple #[.agg #[r.v, .int .i64 r.f.lasts], .bool true]) ∧ Ext NoB w w' := by
 have hc : w.cell? ⟨d, 2, none⟩ = some (.map mo) := by rw [cell_of_blk hd.blk]; rfl
 have hdl := lt_of_blk hd.blk
 have hl := ((hd.look s).2 r hs _ ((Ext.refl NoB w).alloc (.cells #[.slice none 0 0, .int .i64 0] 109))).1
 obtain ⟨a, c, hv, hn, hcm⟩ := RdB.shape (l := r.f.data) (hd.rows.own r (rsGet_mem hs).1).rd
 rw [hv] at hl ⊢
 clear hd hs hv
 go_enter Tryz.func96, Tryz.ntmps96
 go_wp2_with fail
 go_returns
 exact ⟨rfl, ((Ext.refl _ w).alloc _).alloc _⟩
set_option maxRecDepth 100000 in
set_option maxHeartbeats 400000 in
theorem Read_none (d : Nat) (F : Nat → Prop) (D : PDisk) (s : ByteArray) (w : World) (hd : DiskIs w d F D) (hs : fsGet D.files s = none) :
  Calls Tryz.prog 69 #[.pointer (some ⟨d, 0, none⟩), .string s] w fun e w' => e = .returned (.tuple #[.slice none 0 0, .int .i64 7]) ∧ Ext NoB w w' := by
 obtain ⟨mo, rs, hd, e⟩ := hd
 rw [e, rsGet_pf] at hs
 have hof := Lib.hid (of_none d F D.room mo rs s w hd (by cases h : rsGet rs s with | none => rfl | some r => rw [h] at hs; cases hs))
 clear hd hs e
 go_enter Tryz.func69, Tryz.ntmps69
 go_wp2_with fail
 refine hof.out.mono ?_; rintro e w1 ⟨rfl, x1⟩
 go_wp2_with fail
 go_ret2
 exact ⟨rfl, x1.alloc _⟩
set_option maxRecDepth 100000 in
set_option maxHeartbeats 400000 in
theorem Read_some (d : Nat) (F : Nat → Prop) (D : PDisk) (s : ByteArray) (w : World) (hd : DiskIs w d F D) (f : PFile) (hs : fsGet D.files s = some f) :
  Calls Tryz.prog 69 #[.pointer (some ⟨d, 0, none⟩), .string s] w fun e w' => ∃ v, e = .returned (.tuple #[v, .int .i64 0]) ∧ Own w' 5 1 v (bytesV f.data) ∧ Fresh w v ∧ Ext NoB w w' := by
 obtain ⟨mo, rs, hd, e⟩ := hd
 rw [e, rsGet_pf] at hs
 cases hr : rsGet rs s with
 | none => rw [hr] at hs; cases hs
 | some r =>
 rw [hr] at hs
 obtain rfl : r.f = f := by simpa using hs
 have hof := Lib.hid (of_some d F D.room mo rs s w hd r hr)
 have hown := hd.rows.own r (rsGet_mem hr).1
 have hfit : r.f.data.length ≤ 1073741824 := by
  have h1 := used_mem (rsGet_mem hr).1
  have h2 := hd.fits
  have h3 := hd.room30
  omega
 obtain ⟨a, c, hv, hn, hcm⟩ := RdB.shape (l := r.f.data) hown.rd
 rw [hv] at hof hown
 clear hd hs e hv hr
 go_enter Tryz.func69, Tryz.ntmps69
 go_wp2_with fail
 refine hof.out.mono ?_; rintro e w1 ⟨rfl, x1⟩
 go_wp2_with fail
 refine (bytesClone_any _ r.f.data _ ((hown.rd.no x1).no ((Ext.refl _ _).alloc _)) (by omega)).mono ?_; rintro e w2 ⟨v2, rfl, o2, f2, x2⟩
 go_wp2_with fail
 go_ret2
 exact ⟨v2, rfl, o2, f2.mono (by have := x1.size; simp; omega), (x1.alloc _).trans x2⟩
end Go.Proofs.YtgglbholbkdgfaaGreatDoor
namespace Go.Proofs.YtgglbholbkdgfaaGreatDoor
open Go.RowKit
def Gr (F : Nat → Prop) (w w' : World) : Nat → Prop := fun b => F b ∨ (w.heap.size ≤ b ∧ b < w'.heap.size)
def fsPut (fs : List (ByteArray × PFile)) (s : ByteArray) (f : PFile) : List (ByteArray × PFile) :=
 if (fsGet fs s).isSome then fs.map (fun p => if p.1 = s then (s, f) else p) else fs ++ [(s, f)]
def fsDel (fs : List (ByteArray × PFile)) (s : ByteArray) : List (ByteArray × PFile) := fs.filter (fun p => decide (p.1 ≠ s))
def rsPut (rs : List RFile) (r : RFile) : List RFile :=
 if (rsGet rs r.name).isSome then rs.map (fun x => if x.name = r.name then r else x) else rs ++ [r]
theorem rsPut_kv (rs : List RFile) (r : RFile) : (rsPut rs r).map RFile.kv = kvPut (rs.map RFile.kv) r.name (.agg #[r.v, .int .i64 r.f.lasts]) := by
 unfold rsPut kvPut
 rw [rsGet_kv]
 cases rsGet rs r.name with
 | none => simp [RFile.kv]
 | some x =>
  simp only [Option.isSome_some, Option.map_some, if_true, List.map_map]
  apply List.map_congr_left
  intro y _
  simp only [Function.comp, RFile.kv]
  split <;> simp [RFile.kv, *]
theorem rsPut_pf (rs : List RFile) (r : RFile) : (rsPut rs r).map RFile.pf = fsPut (rs.map RFile.pf) r.name r.f := by
 unfold rsPut fsPut
 rw [rsGet_pf]
 cases rsGet rs r.name with
 | none => simp [RFile.pf]
 | some x =>
  simp only [Option.isSome_some, Option.map_some, if_true, List.map_map]
  apply List.map_congr_left
  intro y _
  simp only [Function.comp, RFile.pf]
  split <;> simp [RFile.pf, *]
theorem DiskAt.nodup {w : World} {d : Nat} {F : Nat → Prop} {room : Nat} {mo : Option Nat} {rs : List RFile} (h : DiskAt w d F room mo rs) : (rs.map (·.name)).Nodup := by
 rcases h.map with ⟨_, rfl⟩ | ⟨m, _, _, hm⟩
 ·simp
 ·have := hm.nodup
  simp only [List.map_map] at this
  exact this
theorem apart_sym {rs : List RFile} (h : rs.Pairwise (fun a b => ∀ g, a.v.ownBlock = some g → b.v.ownBlock ≠ some g)) {a b : RFile} (ha : a ∈ rs) (hb : b ∈ rs) (hne : a.name ≠ b.name) : ∀ g, a.v.ownBlock = some g → b.v.ownBlock ≠ some g := by
 induction rs with
 | nil => cases ha
 | cons x rs ih =>
  rw [List.pairwise_cons] at h
  rcases List.mem_cons.1 ha with ea | ha'
  ·rcases List.mem_cons.1 hb with eb | hb'
   ·exact (hne (by rw [ea, eb])).elim
   ·rw [ea]; exact h.1 b hb'
  ·rcases List.mem_cons.1 hb with eb | hb'
   ·intro g hg hg'; rw [eb] at hg'; exact h.1 a ha' g hg' hg
   ·exact ih h.2 ha' hb'
theorem mem_rsPut {rs : List RFile} {r x : RFile} (h : x ∈ rsPut rs r) : x = r ∨ (x ∈ rs ∧ x.name ≠ r.name) := by
 unfold rsPut at h
 cases hg : rsGet rs r.name with
 | none =>
  rw [hg] at h
  simp only [Option.isSome_none, Bool.false_eq_true, if_false, List.mem_append, List.mem_singleton] at h
  rcases h with h | h
  ·refine .inr ⟨h, fun e => ?_⟩
   have := List.find?_eq_none.1 hg x h
   simp [e] at this
  ·exact .inl h
 | some y =>
  rw [hg] at h
  simp only [Option.isSome_some, if_true, List.mem_map] at h
  obtain ⟨z, hz, rfl⟩ := h
  by_cases e : z.name = r.name
  ·simp [e]
  ·simp [e, hz]
theorem rows_put {w w' : World} {F F' G : Nat → Prop} {rs : List RFile} {r : RFile} (h : Rows2 w F rs) (hnd : (rs.map (·.name)).Nodup) (x : Ext G w w') (hG : ∀ y ∈ rs, y.name ≠ r.name → Off G y.v)
  (ho : Own w' 5 1 r.v (bytesV r.f.data)) (hv : ∀ g, r.v.ownBlock = some g → F' g ∧ ∀ y ∈ rs, y.name ≠ r.name → y.v.ownBlock ≠ some g) (hF : ∀ b, F b → F' b) : Rows2 w' F' (rsPut rs r) := by
 refine ⟨fun y hy => ?_, fun y hy g hg => ?_, ?_⟩
 ·rcases mem_rsPut hy with rfl | ⟨hy, hne⟩
  ·exact ho
  ·exact (h.own y hy).ext x (hG y hy hne)
 ·rcases mem_rsPut hy with rfl | ⟨hy, hne⟩
  ·exact (hv g hg).1
  ·exact hF g (h.foot y hy g hg)
 ·have hnd' : rs.Pairwise (fun a b => a.name ≠ b.name) := by
   unfold List.Nodup at hnd
   rwa [List.pairwise_map] at hnd
  have hall := h.apart.and hnd'
  unfold rsPut
  cases hg : rsGet rs r.name with
  | none =>
   simp only [Option.isSome_none, Bool.false_eq_true, if_false]
   rw [List.pairwise_append]
   refine ⟨h.apart, by simp, fun a ha b hb => ?_⟩
   simp only [List.mem_singleton] at hb
   subst hb
   intro g hga hgb
   have hne : a.name ≠ b.name := fun e => by
    have := List.find?_eq_none.1 hg a ha
    simp [e] at this
   exact (hv g hgb).2 a ha hne hga
  | some y =>
   simp only [Option.isSome_some, if_true]
   rw [List.pairwise_map]
   refine List.Pairwise.imp_of_mem ?_ hall
   intro a b ha hb hab g
   obtain ⟨h1, h2⟩ := hab
   by_cases ea : a.name = r.name
   ·have eb : b.name ≠ r.name := fun e => h2 (ea.trans e.symm)
    rw [if_pos ea, if_neg eb]
    intro hg' hgb
    exact (hv g hg').2 b hb eb hgb
   ·rw [if_neg ea]
    by_cases eb : b.name = r.name
    ·rw [if_pos eb]
     intro hga hgr
     exact (hv g hgr).2 a ha ea hga
    ·rw [if_neg eb]; exact h1 g
theorem used_put_found {rs : List RFile} {r x : RFile} (hnd : (rs.map (·.name)).Nodup) (h : rsGet rs r.name = some x) : usedL ((rsPut rs r).map RFile.pf) + x.f.data.length = usedL (rs.map RFile.pf) + r.f.data.length := by
 unfold rsPut
 rw [h]
 simp only [Option.isSome_some, if_true]
 unfold usedL
 induction rs with
 | nil => cases h
 | cons y rs ih =>
  simp only [List.map_cons, List.nodup_cons] at hnd
  simp only [List.map_cons, List.sum_cons]
  unfold rsGet at h
  rw [List.find?_cons] at h
  by_cases e : y.name = r.name
  ·simp only [e, decide_true] at h
   cases h
   have : rs.map (fun x => if x.name = r.name then r else x) = rs := by
    conv => rhs; rw [← List.map_id rs]
    apply List.map_congr_left
    intro z hz
    have : z.name ≠ r.name := fun e' => hnd.1 (List.mem_map.2 ⟨z, hz, e'.trans e.symm⟩)
    simp [this]
   rw [if_pos e, this]
   simp only [RFile.pf]
   omega
  ·simp only [e, decide_false] at h
   rw [if_neg e]
   have := ih hnd.2 h
   simp only [List.map_map] at this ⊢
   omega
theorem used_put_new {rs : List RFile} {r : RFile} (h : rsGet rs r.name = none) : usedL ((rsPut rs r).map RFile.pf) = usedL (rs.map RFile.pf) + r.f.data.length := by
 unfold rsPut
 rw [h]
 simp [usedL, RFile.pf]
theorem length_rsPut_found {rs : List RFile} {r x : RFile} (h : rsGet rs r.name = some x) : (rsPut rs r).length = rs.length := by
 unfold rsPut; rw [h]; simp
theorem length_rsPut_new {rs : List RFile} {r : RFile} (h : rsGet rs r.name = none) : (rsPut rs r).length = rs.length + 1 := by
 unfold rsPut; rw [h]; simp
def rsDel (rs : List RFile) (s : ByteArray) : List RFile := rs.filter (fun r => decide (r.name ≠ s))
theorem rsDel_kv (rs : List RFile) (s : ByteArray) : (rsDel rs s).map RFile.kv = kvDel (rs.map RFile.kv) s := by
 unfold rsDel kvDel
 rw [List.filter_map]
 rfl
theorem rsDel_pf (rs : List RFile) (s : ByteArray) : (rsDel rs s).map RFile.pf = fsDel (rs.map RFile.pf) s := by
 unfold rsDel fsDel
 rw [List.filter_map]
 rfl
theorem used_del {rs : List RFile} {s : ByteArray} {x : RFile} (hnd : (rs.map (·.name)).Nodup) (h : rsGet rs s = some x) : usedL ((rsDel rs s).map RFile.pf) + x.f.data.length = usedL (rs.map RFile.pf) := by
 unfold rsDel usedL
 induction rs with
 | nil => cases h
 | cons y rs ih =>
  simp only [List.map_cons, List.nodup_cons] at hnd
  simp only [List.map_cons, List.sum_cons]
  unfold rsGet at h
  rw [List.find?_cons] at h
  by_cases e : y.name = s
  ·simp only [e, decide_true] at h
   cases h
   have : rs.filter (fun r => decide (r.name ≠ s)) = rs := by
    rw [List.filter_eq_self]
    intro z hz
    simp only [decide_eq_true_eq]
    intro e'
    exact hnd.1 (List.mem_map.2 ⟨z, hz, e'.trans e.symm⟩)
   rw [List.filter_cons_of_neg (by simp [e]), this]
   simp only [RFile.pf]
   omega
  ·simp only [e, decide_false] at h
   rw [List.filter_cons_of_pos (by simpa using e)]
   have := ih hnd.2 h
   simp only [List.map_cons, List.sum_cons]
   omega
theorem DiskAt.del {w w' : World} {d m : Nat} {F G : Nat → Prop} {room us : Nat} {mo : Option Nat} {rs : List RFile} {s : ByteArray} (h : DiskAt w d F room mo rs) (x : Ext G w w')
  (hGr : ∀ y ∈ rs, Off G y.v) (hb : w'.heap[d]? = some (.cells #[.int .i64 room, .int .i64 us, .map (some m)] 87 (0, 0))) (hus : us = usedL ((rsDel rs s).map RFile.pf)) (hfit : us ≤ room)
  (hm : MapIs w' m (kvDel (rs.map RFile.kv) s)) (hmF : F m) : DiskAt w' d (Gr F w w') room (some m) (rsDel rs s) := by
 have hsub : (rsDel rs s).Sublist rs := List.filter_sublist
 refine ⟨?_, .inl h.self, .inr ⟨m, rfl, .inl hmF, ?_⟩, ⟨fun y hy => (h.rows.own y (hsub.subset hy)).ext x (hGr y (hsub.subset hy)), fun y hy g hg => .inl (h.rows.foot y (hsub.subset hy) g hg), h.rows.apart.sublist hsub⟩, ?_, h.room30, ?_, fun y hy => h.names y (hsub.subset hy), Nat.le_trans hsub.length_le h.count⟩
 ·rw [← hus]; exact hb
 ·rw [rsDel_kv]; exact hm
 ·intro b hb
  rcases hb with hb | hb
  ·exact Nat.lt_of_lt_of_le (h.lt b hb) x.size
  ·exact hb.2
 ·rw [← hus]; exact hfit
theorem DiskAt.put {w w' : World} {d m : Nat} {F G : Nat → Prop} {room us : Nat} {mo : Option Nat} {rs : List RFile} {r : RFile} (h : DiskAt w d F room mo rs) (x : Ext G w w')
  (hG : ∀ b, G b → F b) (hGr : ∀ y ∈ rs, y.name ≠ r.name → Off G y.v)
  (hb : w'.heap[d]? = some (.cells #[.int .i64 room, .int .i64 us, .map (some m)] 87 (0, 0))) (hus : us = usedL ((rsPut rs r).map RFile.pf)) (hfit : us ≤ room)
  (hm : MapIs w' m (kvPut (rs.map RFile.kv) r.name (.agg #[r.v, .int .i64 r.f.lasts]))) (hmF : F m ∨ w.heap.size ≤ m)
  (ho : Own w' 5 1 r.v (bytesV r.f.data)) (hv : ∀ g, r.v.ownBlock = some g → (F g ∨ w.heap.size ≤ g) ∧ ∀ y ∈ rs, y.name ≠ r.name → y.v.ownBlock ≠ some g)
  (hn : isNm r.name = true) (hcount : (rsPut rs r).length ≤ 256) : DiskAt w' d (Gr F w w') room (some m) (rsPut rs r) := by
 have hnm : 1 ≤ r.name.size ∧ r.name.size ≤ 64 := by unfold isNm at hn; simpa using hn
 refine ⟨?_, .inl h.self, .inr ⟨m, rfl, hmF.elim .inl (fun hs => .inr ⟨hs, hm.lt⟩), ?_⟩, rows_put h.rows h.nodup x hGr ho (fun g hg => ⟨(hv g hg).1.elim .inl (fun hs => .inr ⟨hs, ho.lt g hg⟩), (hv g hg).2⟩) (fun b hb => .inl hb), ?_, h.room30, ?_, ?_, hcount⟩
 ·rw [← hus]; exact hb
 ·rw [rsPut_kv]; exact hm
 ·intro b hb
  rcases hb with hb | hb
  ·exact Nat.lt_of_lt_of_le (h.lt b hb) x.size
  ·exact hb.2
 ·rw [← hus]; exact hfit
 ·intro y hy
  rcases mem_rsPut hy with rfl | ⟨hy, _⟩
  ·exact hnm
  ·exact h.names y hy
end Go.Proofs.YtgglbholbkdgfaaGreatDoor
namespace Go.Proofs.YtgglbholbkdgfaaGreatDoor
open Go.RowKit
theorem New_any (room : Nat) (h : room ≤ 1073741824) (w : World) :
  Calls Tryz.prog 15 #[.int .i64 room] w fun e w' => ∃ d, e = .returned (.tuple #[.pointer (some ⟨d, 0, none⟩), .int .i64 0]) ∧ w.heap.size ≤ d ∧ DiskIs w' d (Gr NoB w w') ⟨room, []⟩ ∧ Ext NoB w w' := by
 go_enter Tryz.func15, Tryz.ntmps15
 go_wp2_with fail
 go_ret2
 refine ⟨w.heap.size, rfl, Nat.le_refl _, ⟨none, [], ⟨blk_new w _, .inr ⟨Nat.le_refl _, by simp⟩, .inl ⟨rfl, rfl⟩, ⟨by simp, by simp, by simp⟩, ?_, h, by simp [usedL], by simp, by simp⟩, rfl⟩, (Ext.refl _ w).alloc _⟩
 intro b hb
 rcases hb with hb | hb
 ·exact hb.elim
 ·exact hb.2
theorem app_blk {w w' : World} {e size b : Nat} {v : Value} {xs : List Value} (h : Own w e size v xs) (x : Ext (fun k => v.ownBlock = some k) w w') {cs : Array Value} {t : TypeId} {fr : Nat × Nat} (hb : w.heap[b]? = some (.cells cs t fr)) (hne : t ≠ e) : w'.heap[b]? = some (.cells cs t fr) :=
 x.blk hb (fun hg => h.ne_blk hb hne b hg rfl)
theorem app_map {w w' : World} {e size m : Nat} {v : Value} {xs : List Value} (h : Own w e size v xs) (x : Ext (fun k => v.ownBlock = some k) w w') {kv : List (ByteArray × Value)} (hm : MapIs w m kv) : MapIs w' m kv :=
 hm.ext x (fun hg => hm.ne_own h m hg rfl)
set_option maxRecDepth 100000 in
set_option maxHeartbeats 1000000 in
theorem Append_found (d : Nat) (F : Nat → Prop) (room : Nat) (mo : Option Nat) (rs : List RFile) (s : ByteArray) (p : Value) (l : List UInt8) (w : World) (hd : DiskAt w d F room mo rs) (hp : RdB w p l) (hoff : Off F p)
  (hn : isNm s = true) (r : RFile) (hs : rsGet rs s = some r) (hfit : l.length + usedL (rs.map RFile.pf) ≤ room) :
  Calls Tryz.prog 110 #[.pointer (some ⟨d, 0, none⟩), .string s, p] w fun e w' => e = .returned (.int .i64 0) ∧ Ext F w w' ∧
   ∃ v mo', DiskAt w' d (Gr F w w') room mo' (rsPut rs ⟨s, v, ⟨r.f.data ++ l, r.f.lasts⟩⟩) := by
 obtain ⟨m, rfl, hmF, hmap⟩ : ∃ m, mo = some m ∧ F m ∧ MapIs w m (rs.map RFile.kv) := by
  rcases hd.map with ⟨_, rfl⟩ | h
  ·cases hs
  ·exact h
 obtain ⟨us, hus⟩ : ∃ u, usedL (rs.map RFile.pf) = u := ⟨_, rfl⟩
 have hblk := hd.blk
 rw [hus] at hfit hblk
 have c0 : w.cell? ⟨d, 0, none⟩ = some (.int .i64 room) := by rw [cell_of_blk hblk]; rfl
 have c1 : w.cell? ⟨d, 1, none⟩ = some (.int .i64 us) := by rw [cell_of_blk hblk]; rfl
 have c2 : w.cell? ⟨d, 2, none⟩ = some (.map (some m)) := by rw [cell_of_blk hblk]; rfl
 have f1 : w.frozen? ⟨d, 1, none⟩ = false := frozen_of_blk hblk 1
 have hdl := lt_of_blk hblk
 have hl := ((hd.look s).2 r hs _ (Ext.refl NoB w)).1
 have hown := hd.rows.own r (rsGet_mem hs).1
 obtain ⟨a, c, hv, hnv, hcm⟩ := RdB.shape (l := r.f.data) hown.rd
 obtain ⟨a', c', rfl, hnp, hcp⟩ := RdB.shape hp
 rw [hv] at hl
 have hr30 := hd.room30
 have hw1 : IntKind.i64.wrap ((room : Int) - (us : Int)) = (room : Int) - (us : Int) := IntWalk.i64_in _ (by omega)
 have HD := Lib.hid hd
 have HS := Lib.hid hs
 have Hus := Lib.hid hus
 have Hmap := Lib.hid hmap
 have Hblk := Lib.hid hblk
 have Hown := Lib.hid hown
 have Hv := Lib.hid hv
 clear hd hs hus hmap hblk hown hv
 go_enter Tryz.func110, Tryz.ntmps110
 go_wp2_with (go_at_call 131; refine (isName_any _ _).mono ?_; rintro e w' ⟨rfl, rfl⟩; rw [hn])
 go_quiet (fail)
 have x1 : Ext NoB w ((w.alloc (.cells #[.slice a r.f.data.length c, .int .i64 r.f.lasts] 109)).drewN nq) := ((Ext.refl _ w).alloc _).drewN _
 have b1 : ((w.alloc (.cells #[.slice a r.f.data.length c, .int .i64 r.f.lasts] 109)).drewN nq).heap[w.heap.size]? = some (.cells #[.slice a r.f.data.length c, .int .i64 r.f.lasts] 109 (0, 0)) := blk_new w _
 generalize (w.alloc (.cells #[.slice a r.f.data.length c, .int .i64 r.f.lasts] 109)).drewN nq = W at x1 b1 ⊢
 have hbx : d < w.heap.size := hdl
 obtain ⟨B, hB⟩ : ∃ B, w.heap.size = B := ⟨_, rfl⟩
 have HB := Lib.hid hB
 rw [hB] at b1 hbx ⊢
 clear hB
 have g0 : W.cell? ⟨B, 0, none⟩ = some (.slice a r.f.data.length c) := by rw [cell_of_blk b1]; rfl
 have ho1 : Own W 5 1 (.slice a r.f.data.length c) (bytesV r.f.data) := by rw [← Hv.out]; exact Hown.out.no x1
 have s1 := Lib.hid (Rd.src (P := Tryz.prog) unBytes (hp.no x1) (bytesV_one l) (by decide))
 have hub := Lib.hid (used_mem (rsGet_mem HS.out).1)
 have Hb1 := Lib.hid b1
 clear b1 c0 c1 c2 f1
 have hmn := fun (w : World) => run_eql_map_nil (P := Tryz.prog) w 85 _ _ (some m) unMap
 have e1 : (((r.f.data.length + l.length : Nat) : Nat) : Int) = (r.f.data.length : Int) + l.length := by omega
 have hblk1 := x1.blk Hblk.out (fun h => h)
 have Hblk1 := Lib.hid hblk1
 have Hmap1 := Lib.hid (Hmap.out.ext x1 (fun h => h))
 clear hblk1
 go_wp2_with (at_builtin; refine wpList_app _ rfl (.tmp 50) (.tmp 51) 35 35 rfl 5 1 1 unBytes elByte ho1 s1.out rfl rfl (by simp only [bytesV_length]; have := hub.out; rw [Hus.out] at this; omega) (by decide) ?_; intro v2 w2 o2 x2 h2; refine halt2 (fun _K HK => ?_))
 clear g0
 rw [← bytesV_append] at o2
 obtain ⟨a2, c2, rfl, hn2, hc2⟩ := RdB.shape o2.rd
 have Hb2 := Lib.hid (app_blk ho1 x2 Hb1.out (by decide))
 have Hd2 := Lib.hid (app_blk ho1 x2 Hblk1.out (by decide))
 have Hm2 := Lib.hid (app_map ho1 x2 Hmap1.out)
 have Hx2 := Lib.hid x2
 have Ho2 := Lib.hid o2
 have Hh2 := Lib.hid h2
 have Ho1 := Lib.hid ho1
 clear x2 o2 h2 ho1
 have g0 : w2.cell? ⟨B, 0, none⟩ = some (.slice a r.f.data.length c) := by rw [cell_of_blk Hb2.out]; rfl
 have g1 : w2.cell? ⟨B, 1, none⟩ = some (.int .i64 r.f.lasts) := by rw [cell_of_blk Hb2.out]; rfl
 have fz0 : w2.frozen? ⟨B, 0, none⟩ = false := frozen_of_blk Hb2.out 0
 have d1 : w2.cell? ⟨d, 1, none⟩ = some (.int .i64 us) := by rw [cell_of_blk Hd2.out]; rfl
 have d2 : w2.cell? ⟨d, 2, none⟩ = some (.map (some m)) := by rw [cell_of_blk Hd2.out]; rfl
 have fz1 : w2.frozen? ⟨d, 1, none⟩ = false := frozen_of_blk Hd2.out 1
 have hdB : d ≠ B := Nat.ne_of_lt hbx
 have hBd : B ≠ d := Ne.symm hdB
 refine HK.out ?_; clear HK _K
 go_wp2_with fail
 have Hb3 := Lib.hid (blk_setCell_ne (blk_setCell Hb2.out 0 (.slice a2 (r.f.data.length + l.length) c2)) (p := ⟨d, 1, none⟩) hBd (.int .i64 ((us : Int) + (l.length : Int))))
 have Hd3 := Lib.hid (blk_setCell (blk_setCell_ne Hd2.out (p := ⟨B, 0, none⟩) hdB (.slice a2 (r.f.data.length + l.length) c2)) 1 (.int .i64 ((us : Int) + (l.length : Int))))
 have X3 : Ext (fun b => b = B ∨ b = d) w2 ((w2.setCell ⟨B, 0, none⟩ (.slice a2 (r.f.data.length + l.length) c2)).setCell ⟨d, 1, none⟩ (.int .i64 ((us : Int) + (l.length : Int)))) := ((Ext.refl _ w2).setCell (.inl (.inl rfl)) _).setCell (.inl (.inr rfl)) _
 generalize ((w2.setCell ⟨B, 0, none⟩ (.slice a2 (r.f.data.length + l.length) c2)).setCell ⟨d, 1, none⟩ (.int .i64 ((us : Int) + (l.length : Int)))) = w3 at Hb3 Hd3 X3 ⊢
 simp at Hb3 Hd3
 have hm3 : MapIs w3 m (rs.map RFile.kv) := Hm2.out.ext X3 (fun h => h.elim (Hm2.out.ne_blk Hb2.out) (Hm2.out.ne_blk Hd2.out))
 have ho3 : Own w3 5 1 (.slice a2 (r.f.data ++ l).length c2) (bytesV (r.f.data ++ l)) := Ho2.out.ext X3 (fun g hg h => h.elim (fun e => Ho2.out.ne_blk Hb2.out (by decide) g hg e.symm) (fun e => Ho2.out.ne_blk Hd2.out (by decide) g hg e.symm))
 clear g0 g1 fz0 d1 d2 fz1
 have g0 : w3.cell? ⟨B, 0, none⟩ = some (.slice a2 (r.f.data.length + l.length) c2) := by rw [cell_of_blk Hb3.out]; rfl
 have g1 : w3.cell? ⟨B, 1, none⟩ = some (.int .i64 r.f.lasts) := by rw [cell_of_blk Hb3.out]; rfl
 have d2 : w3.cell? ⟨d, 2, none⟩ = some (.map (some m)) := by rw [cell_of_blk Hd3.out]; rfl
 have hm3' : MapIs w3.drew m (rs.map RFile.kv) := hm3
 obtain ⟨w4, hput, hm4, x4, hsz4⟩ := run_put (P := Tryz.prog) unMap unString hm3' s (.agg #[.slice a2 (r.f.data.length + l.length) c2, .int .i64 r.f.lasts])
 have Hm4 := Lib.hid hm4
 have Hx4 := Lib.hid x4
 have Hsz4 := Lib.hid hsz4
 have Hm3 := Lib.hid hm3
 have Ho3 := Lib.hid ho3
 have HX3 := Lib.hid X3
 clear hm4 x4 hsz4 hm3 ho3 hm3' X3
 go_still_tail 6, (by kernel_rfl)
 change wpList _ _ _ _ _ w3.drew
 go_wp2_with fail
 go_ret
 have hd := HD.out
 have hrm := rsGet_mem HS.out
 have hsn := hrm.2
 have hB := HB.out
 have hdF := hd.self
 have hlt := hd.lt
 have xW4 : Ext (fun b => r.v.ownBlock = some b ∨ b = d ∨ b = m) w w4 :=
  ((((x1.of_no).next Hx2.out (fun x hx _ => .inl (by rw [Hv.out]; exact hx))).next HX3.out (fun x hx hl => hx.elim (fun e => by omega) (fun e => .inr (.inl e)))).drew).next Hx4.out (fun x hx _ => .inr (.inr hx))
 have hGF : ∀ b, (r.v.ownBlock = some b ∨ b = d ∨ b = m) → F b := fun b hb => hb.elim (hd.rows.foot r hrm.1 b) (fun h => h.elim (fun e => e ▸ hdF) (fun e => e ▸ hmF))
 have hoff' : ∀ y ∈ rs, y.name ≠ s → Off (fun b => r.v.ownBlock = some b ∨ b = d ∨ b = m) y.v := by
  intro y hy hne g hg hb
  rcases hb with hb | rfl | rfl
  ·exact apart_sym hd.rows.apart hy hrm.1 (by rw [hsn]; exact hne) g hg hb
  ·exact (hd.rows.own y hy).ne_blk hd.blk (by decide) g hg rfl
  ·exact Hmap.out.ne_own (hd.rows.own y hy) g hg rfl
 have hv2 : ∀ g, (Value.slice a2 (r.f.data.length + l.length) c2).ownBlock = some g → (F g ∨ w.heap.size ≤ g) ∧ ∀ y ∈ rs, y.name ≠ s → y.v.ownBlock ≠ some g := by
  intro g hg
  have hg' : (Value.slice a2 (r.f.data ++ l).length c2).ownBlock = some g := by rw [List.length_append]; exact hg
  rcases Hh2.out with h | ⟨g', h1, h2⟩
  ·rw [h, ← Hv.out] at hg'
   exact ⟨.inl (hd.rows.foot r hrm.1 g hg'), fun y hy hne hyg => apart_sym hd.rows.apart hy hrm.1 (by rw [hsn]; exact hne) g hyg hg'⟩
  ·rw [h1] at hg'; cases hg'
   have := x1.size
   exact ⟨.inr (by omega), fun y hy _ hyg => by have := (hd.rows.own y hy).lt g hyg; omega⟩
 have hus := used_put_found (r := ⟨s, .slice a2 (r.f.data.length + l.length) c2, ⟨r.f.data ++ l, r.f.lasts⟩⟩) hd.nodup HS.out
 simp only [List.length_append, Hus.out] at hus
 have hxl : Own w4 5 1 (.slice a2 (r.f.data.length + l.length) c2) (bytesV (r.f.data ++ l)) := by
  have h3 := Ho3.out
  rw [List.length_append] at h3
  have h3' : Own w3.drew 5 1 (.slice a2 (r.f.data.length + l.length) c2) (bytesV (r.f.data ++ l)) := h3
  exact h3'.ext Hx4.out (fun g hg e => Hm3.out.ne_own h3 g hg (Eq.symm e))
 have hb4 : w4.heap[d]? = some (.cells #[.int .i64 room, .int .i64 (us + l.length : Nat), .map (some m)] 87 (0, 0)) := by
  have hd3 : w3.drew.heap[d]? = some (.cells #[.int .i64 room, .int .i64 ((us : Int) + (l.length : Int)), .map (some m)] 87 (0, 0)) := Hd3.out
  have := Hx4.out.blk hd3 (fun e => Hm3.out.ne_blk Hd3.out (Eq.symm e))
  simpa using this
 exact ⟨rfl, xW4.mono (fun b _ hb => hGF b hb), _, _, hd.put (r := ⟨s, .slice a2 (r.f.data.length + l.length) c2, ⟨r.f.data ++ l, r.f.lasts⟩⟩) xW4 hGF hoff' hb4 (by omega) (by omega) Hm4.out (.inl hmF) hxl hv2 hn (by rw [length_rsPut_found HS.out]; exact hd.count)⟩
end Go.Proofs.YtgglbholbkdgfaaGreatDoor
namespace Go.Proofs.YtgglbholbkdgfaaGreatDoor
open Go.RowKit
theorem run_len_kv {w : World} {m : Nat} {kv : List (ByteArray × Value)} (h : MapIs w m kv) (ty : TypeId) : (Builtin.len_ #[85] ty #[.map (some m)]).run Tryz.prog w = .ok (.int .i64 kv.length) w := by
 obtain ⟨es, c, hb, _, he⟩ := h
 have := MapIs.len he
 simp [Builtin.len_, MapKept.run_getObj_map hb, Result.andThen, goInt, this]
set_option maxRecDepth 100000 in
set_option maxHeartbeats 1000000 in
theorem Append_new (d : Nat) (F : Nat → Prop) (room m : Nat) (rs : List RFile) (s : ByteArray) (p : Value) (l : List UInt8) (w : World) (hd : DiskAt w d F room (some m) rs) (hp : RdB w p l) (hoff : Off F p)
  (hn : isNm s = true) (hs : rsGet rs s = none) (hfit : l.length + usedL (rs.map RFile.pf) ≤ room) (hcnt : rs.length < 256) :
  Calls Tryz.prog 110 #[.pointer (some ⟨d, 0, none⟩), .string s, p] w fun e w' => e = .returned (.int .i64 0) ∧ Ext F w w' ∧
   ∃ v mo', DiskAt w' d (Gr F w w') room mo' (rsPut rs ⟨s, v, ⟨l, 0⟩⟩) := by
 obtain ⟨hmF, hmap⟩ : F m ∧ MapIs w m (rs.map RFile.kv) := by
  rcases hd.map with ⟨h, _⟩ | ⟨m', h, h'⟩
  ·cases h
  ·cases h; exact h'
 obtain ⟨us, hus⟩ : ∃ u, usedL (rs.map RFile.pf) = u := ⟨_, rfl⟩
 have hblk := hd.blk
 rw [hus] at hfit hblk
 have c0 : w.cell? ⟨d, 0, none⟩ = some (.int .i64 room) := by rw [cell_of_blk hblk]; rfl
 have c1 : w.cell? ⟨d, 1, none⟩ = some (.int .i64 us) := by rw [cell_of_blk hblk]; rfl
 have c2 : w.cell? ⟨d, 2, none⟩ = some (.map (some m)) := by rw [cell_of_blk hblk]; rfl
 have f1 : w.frozen? ⟨d, 1, none⟩ = false := frozen_of_blk hblk 1
 have hdl := lt_of_blk hblk
 have hl := ((hd.look s).1 hs _ (Ext.refl NoB w)).1
 obtain ⟨a', c', rfl, hnp, hcp⟩ := RdB.shape hp
 have hr30 := hd.room30
 have hw1 : IntKind.i64.wrap ((room : Int) - (us : Int)) = (room : Int) - (us : Int) := IntWalk.i64_in _ (by omega)
 have hlen : ∀ nq ty, (Builtin.len_ #[85] ty #[.map (some m)]).run Tryz.prog ((w.alloc (.cells #[.slice none 0 0, .int .i64 0] 109)).drewN nq) = .ok (.int .i64 rs.length) ((w.alloc (.cells #[.slice none 0 0, .int .i64 0] 109)).drewN nq) := fun nq ty => by
  have := run_len_kv (hmap.ext (((Ext.refl NoB w).alloc (.cells #[.slice none 0 0, .int .i64 0] 109)).drewN nq) (fun h => h)) ty
  simpa using this
 have hlt256 : (rs.length : Int) < 256 := by omega
 have HD := Lib.hid hd
 have HS := Lib.hid hs
 have Hus := Lib.hid hus
 have Hmap := Lib.hid hmap
 have Hblk := Lib.hid hblk
 clear hd hs hus hmap hblk
 go_enter Tryz.func110, Tryz.ntmps110
 go_wp2_with (go_at_call 131; refine (isName_any _ _).mono ?_; rintro e w' ⟨rfl, rfl⟩; rw [hn])
 go_quiet (fail)
 have x1 : Ext NoB w ((w.alloc (.cells #[.slice none 0 0, .int .i64 0] 109)).drewN nq) := ((Ext.refl _ w).alloc _).drewN _
 have b1 : ((w.alloc (.cells #[.slice none 0 0, .int .i64 0] 109)).drewN nq).heap[w.heap.size]? = some (.cells #[.slice none 0 0, .int .i64 0] 109 (0, 0)) := blk_new w _
 generalize (w.alloc (.cells #[.slice none 0 0, .int .i64 0] 109)).drewN nq = W at x1 b1 ⊢
 have hbx : d < w.heap.size := hdl
 obtain ⟨B, hB⟩ : ∃ B, w.heap.size = B := ⟨_, rfl⟩
 have HB := Lib.hid hB
 rw [hB] at b1 hbx ⊢
 clear hB
 have g0 : W.cell? ⟨B, 0, none⟩ = some (.slice none 0 0) := by rw [cell_of_blk b1]; rfl
 have s1 := Lib.hid (Rd.src (P := Tryz.prog) unBytes (hp.no x1) (bytesV_one l) (by decide))
 have Hb1 := Lib.hid b1
 clear b1 c0 c1 c2 f1 hlen
 have hmn := fun (w : World) => run_eql_map_nil (P := Tryz.prog) w 85 _ _ (some m) unMap
 have hblk1 := x1.blk Hblk.out (fun h => h)
 have Hblk1 := Lib.hid hblk1
 clear hblk1
 go_wp2_with (at_builtin; refine wpList_app _ rfl (.tmp 50) (.tmp 51) 35 35 rfl 5 1 1 unBytes elByte (Own.nil W _ _) s1.out rfl rfl (by simp; omega) (by decide) ?_; intro v2 w2 o2 x2 h2; refine halt2 (fun _K HK => ?_))
 clear g0
 have x2' : Ext NoB W w2 := x2.mono (fun _ _ h => by cases h)
 simp only [List.nil_append] at o2
 obtain ⟨a2, c2, rfl, hn2, hc2⟩ := RdB.shape o2.rd
 have Hb2 := Lib.hid (x2'.blk Hb1.out (fun h => h))
 have Hd2 := Lib.hid (x2'.blk Hblk1.out (fun h => h))
 have Hx2 := Lib.hid (x1.trans x2')
 have Ho2 := Lib.hid o2
 have Hh2 := Lib.hid h2
 clear x2 x2' o2 h2
 have g0 : w2.cell? ⟨B, 0, none⟩ = some (.slice none 0 0) := by rw [cell_of_blk Hb2.out]; rfl
 have g1 : w2.cell? ⟨B, 1, none⟩ = some (.int .i64 0) := by rw [cell_of_blk Hb2.out]; rfl
 have fz0 : w2.frozen? ⟨B, 0, none⟩ = false := frozen_of_blk Hb2.out 0
 have d1 : w2.cell? ⟨d, 1, none⟩ = some (.int .i64 us) := by rw [cell_of_blk Hd2.out]; rfl
 have d2 : w2.cell? ⟨d, 2, none⟩ = some (.map (some m)) := by rw [cell_of_blk Hd2.out]; rfl
 have fz1 : w2.frozen? ⟨d, 1, none⟩ = false := frozen_of_blk Hd2.out 1
 have hdB : d ≠ B := Nat.ne_of_lt hbx
 have hBd : B ≠ d := Ne.symm hdB
 refine HK.out ?_; clear HK _K
 go_wp2_with fail
 have Hb3 := Lib.hid (blk_setCell_ne (blk_setCell Hb2.out 0 (.slice a2 l.length c2)) (p := ⟨d, 1, none⟩) hBd (.int .i64 ((us : Int) + (l.length : Int))))
 have Hd3 := Lib.hid (blk_setCell (blk_setCell_ne Hd2.out (p := ⟨B, 0, none⟩) hdB (.slice a2 l.length c2)) 1 (.int .i64 ((us : Int) + (l.length : Int))))
 have X3 : Ext (fun b => b = B ∨ b = d) w2 ((w2.setCell ⟨B, 0, none⟩ (.slice a2 l.length c2)).setCell ⟨d, 1, none⟩ (.int .i64 ((us : Int) + (l.length : Int)))) := ((Ext.refl _ w2).setCell (.inl (.inl rfl)) _).setCell (.inl (.inr rfl)) _
 generalize ((w2.setCell ⟨B, 0, none⟩ (.slice a2 l.length c2)).setCell ⟨d, 1, none⟩ (.int .i64 ((us : Int) + (l.length : Int)))) = w3 at Hb3 Hd3 X3 ⊢
 simp at Hb3 Hd3
 have hm2 := Hmap.out.ext Hx2.out (fun h => h)
 have hm3 : MapIs w3 m (rs.map RFile.kv) := hm2.ext X3 (fun h => h.elim (hm2.ne_blk Hb2.out) (hm2.ne_blk Hd2.out))
 have ho3 : Own w3 5 1 (.slice a2 l.length c2) (bytesV l) := Ho2.out.ext X3 (fun g hg h => h.elim (fun e => Ho2.out.ne_blk Hb2.out (by decide) g hg e.symm) (fun e => Ho2.out.ne_blk Hd2.out (by decide) g hg e.symm))
 clear g0 g1 fz0 d1 d2 fz1 hm2
 have g0 : w3.cell? ⟨B, 0, none⟩ = some (.slice a2 l.length c2) := by rw [cell_of_blk Hb3.out]; rfl
 have g1 : w3.cell? ⟨B, 1, none⟩ = some (.int .i64 0) := by rw [cell_of_blk Hb3.out]; rfl
 have d2 : w3.cell? ⟨d, 2, none⟩ = some (.map (some m)) := by rw [cell_of_blk Hd3.out]; rfl
 have hm3' : MapIs w3.drew m (rs.map RFile.kv) := hm3
 obtain ⟨w4, hput, hm4, x4, hsz4⟩ := run_put (P := Tryz.prog) unMap unString hm3' s (.agg #[.slice a2 l.length c2, .int .i64 0])
 have Hm4 := Lib.hid hm4
 have Hx4 := Lib.hid x4
 have Hm3 := Lib.hid hm3
 have Ho3 := Lib.hid ho3
 have HX3 := Lib.hid X3
 clear hm4 x4 hsz4 hm3 ho3 hm3' X3
 go_still_tail 6, (by kernel_rfl)
 change wpList _ _ _ _ _ w3.drew
 go_wp2_with fail
 go_ret
 have hd := HD.out
 have hB := HB.out
 have hdF := hd.self
 have hlt := hd.lt
 have xW4 : Ext (fun b => b = d ∨ b = m) w w4 :=
  (((Hx2.out.of_no).next HX3.out (fun x hx hl => hx.elim (fun e => by omega) (fun e => .inl e))).drew).next Hx4.out (fun x hx _ => .inr hx)
 have hGF : ∀ b, (b = d ∨ b = m) → F b := fun b hb => hb.elim (fun e => e ▸ hdF) (fun e => e ▸ hmF)
 have hoff' : ∀ y ∈ rs, y.name ≠ s → Off (fun b => b = d ∨ b = m) y.v := by
  intro y hy _ g hg hb
  rcases hb with rfl | rfl
  ·exact (hd.rows.own y hy).ne_blk hd.blk (by decide) g hg rfl
  ·exact Hmap.out.ne_own (hd.rows.own y hy) g hg rfl
 have hv2 : ∀ g, (Value.slice a2 l.length c2).ownBlock = some g → (F g ∨ w.heap.size ≤ g) ∧ ∀ y ∈ rs, y.name ≠ s → y.v.ownBlock ≠ some g := by
  intro g hg
  rcases Hh2.out with h | ⟨g', h1, h2⟩
  ·rw [h] at hg; cases hg
  ·rw [h1] at hg; cases hg
   have := x1.size
   exact ⟨.inr (by omega), fun y hy _ hyg => by have := (hd.rows.own y hy).lt g hyg; omega⟩
 have hus := used_put_new (r := ⟨s, .slice a2 l.length c2, ⟨l, 0⟩⟩) HS.out
 simp only [Hus.out] at hus
 have hxl : Own w4 5 1 (.slice a2 l.length c2) (bytesV l) := by
  have h3' : Own w3.drew 5 1 (.slice a2 l.length c2) (bytesV l) := Ho3.out
  exact h3'.ext Hx4.out (fun g hg e => Hm3.out.ne_own Ho3.out g hg (Eq.symm e))
 have hb4 : w4.heap[d]? = some (.cells #[.int .i64 room, .int .i64 (us + l.length : Nat), .map (some m)] 87 (0, 0)) := by
  have hd3 : w3.drew.heap[d]? = some (.cells #[.int .i64 room, .int .i64 ((us : Int) + (l.length : Int)), .map (some m)] 87 (0, 0)) := Hd3.out
  have := Hx4.out.blk hd3 (fun e => Hm3.out.ne_blk Hd3.out (Eq.symm e))
  simpa using this
 exact ⟨rfl, xW4.mono (fun b _ hb => hGF b hb), _, _, hd.put (r := ⟨s, .slice a2 l.length c2, ⟨l, 0⟩⟩) xW4 hGF hoff' hb4 hus.symm (by omega) Hm4.out (.inl hmF) hxl hv2 hn (by rw [length_rsPut_new HS.out]; omega)⟩
set_option maxRecDepth 100000 in
set_option maxHeartbeats 1000000 in
theorem Append_first (d : Nat) (F : Nat → Prop) (room : Nat) (s : ByteArray) (p : Value) (l : List UInt8) (w : World) (hd : DiskAt w d F room none []) (hp : RdB w p l) (hoff : Off F p)
  (hn : isNm s = true) (hfit : l.length ≤ room) :
  Calls Tryz.prog 110 #[.pointer (some ⟨d, 0, none⟩), .string s, p] w fun e w' => e = .returned (.int .i64 0) ∧ Ext F w w' ∧
   ∃ v mo', DiskAt w' d (Gr F w w') room mo' (rsPut [] ⟨s, v, ⟨l, 0⟩⟩) := by
 have hblk := hd.blk
 have c0 : w.cell? ⟨d, 0, none⟩ = some (.int .i64 room) := by rw [cell_of_blk hblk]; rfl
 have c1 : w.cell? ⟨d, 1, none⟩ = some (.int .i64 (0 : Nat)) := by rw [cell_of_blk hblk]; rfl
 have c2 : w.cell? ⟨d, 2, none⟩ = some (.map none) := by rw [cell_of_blk hblk]; rfl
 have f1 : w.frozen? ⟨d, 1, none⟩ = false := frozen_of_blk hblk 1
 have hdl := lt_of_blk hblk
 have hl := ((hd.look s).1 rfl _ (Ext.refl NoB w)).1
 obtain ⟨a', c', rfl, hnp, hcp⟩ := RdB.shape hp
 have hr30 := hd.room30
 have HD := Lib.hid hd
 have Hblk := Lib.hid hblk
 clear hd hblk
 go_enter Tryz.func110, Tryz.ntmps110
 go_wp2_with (go_at_call 131; refine (isName_any _ _).mono ?_; rintro e w' ⟨rfl, rfl⟩; rw [hn])
 go_quiet (fail)
 have x1 : Ext NoB w ((w.alloc (.cells #[.slice none 0 0, .int .i64 0] 109)).drewN nq) := ((Ext.refl _ w).alloc _).drewN _
 have b1 : ((w.alloc (.cells #[.slice none 0 0, .int .i64 0] 109)).drewN nq).heap[w.heap.size]? = some (.cells #[.slice none 0 0, .int .i64 0] 109 (0, 0)) := blk_new w _
 generalize (w.alloc (.cells #[.slice none 0 0, .int .i64 0] 109)).drewN nq = W at x1 b1 ⊢
 have hbx : d < w.heap.size := hdl
 obtain ⟨B, hB⟩ : ∃ B, w.heap.size = B := ⟨_, rfl⟩
 have HB := Lib.hid hB
 rw [hB] at b1 hbx ⊢
 clear hB
 have g0 : W.cell? ⟨B, 0, none⟩ = some (.slice none 0 0) := by rw [cell_of_blk b1]; rfl
 have s1 := Lib.hid (Rd.src (P := Tryz.prog) unBytes (hp.no x1) (bytesV_one l) (by decide))
 have Hb1 := Lib.hid b1
 clear b1 c0 c1 c2 f1
 have hmn := fun (w : World) => run_eql_map_nil (P := Tryz.prog) w 85 _ _ none unMap
 have hblk1 := x1.blk Hblk.out (fun h => h)
 have Hblk1 := Lib.hid hblk1
 clear hblk1
 go_wp2_with (at_builtin; refine wpList_app _ rfl (.tmp 50) (.tmp 51) 35 35 rfl 5 1 1 unBytes elByte (Own.nil W _ _) s1.out rfl rfl (by simp; omega) (by decide) ?_; intro v2 w2 o2 x2 h2; refine halt2 (fun _K HK => ?_))
 clear g0
 have x2' : Ext NoB W w2 := x2.mono (fun _ _ h => by cases h)
 simp only [List.nil_append] at o2
 obtain ⟨a2, c2, rfl, hn2, hc2⟩ := RdB.shape o2.rd
 have Hb2 := Lib.hid (x2'.blk Hb1.out (fun h => h))
 have Hd2 := Lib.hid (x2'.blk Hblk1.out (fun h => h))
 have Hx2 := Lib.hid (x1.trans x2')
 have Ho2 := Lib.hid o2
 have Hh2 := Lib.hid h2
 clear x2 x2' o2 h2
 have g0 : w2.cell? ⟨B, 0, none⟩ = some (.slice none 0 0) := by rw [cell_of_blk Hb2.out]; rfl
 have g1 : w2.cell? ⟨B, 1, none⟩ = some (.int .i64 0) := by rw [cell_of_blk Hb2.out]; rfl
 have fz0 : w2.frozen? ⟨B, 0, none⟩ = false := frozen_of_blk Hb2.out 0
 have d1 : w2.cell? ⟨d, 1, none⟩ = some (.int .i64 0) := by rw [cell_of_blk Hd2.out]; rfl
 have d2 : w2.cell? ⟨d, 2, none⟩ = some (.map none) := by rw [cell_of_blk Hd2.out]; rfl
 have fz1 : w2.frozen? ⟨d, 1, none⟩ = false := frozen_of_blk Hd2.out 1
 have fz2 : w2.frozen? ⟨d, 2, none⟩ = false := frozen_of_blk Hd2.out 2
 have hmm := @run_makeMap Tryz.prog
 have hdl2 : d < w2.heap.size := lt_of_blk Hd2.out
 have hBl2 : B < w2.heap.size := lt_of_blk Hb2.out
 have hdB : d ≠ B := Nat.ne_of_lt hbx
 have hBd : B ≠ d := Ne.symm hdB
 refine HK.out ?_; clear HK _K
 go_wp2_with fail
 obtain ⟨M, hM⟩ : ∃ M, w2.heap.size = M := ⟨_, rfl⟩
 have HM := Lib.hid hM
 have Hb3 := Lib.hid (blk_alloc (blk_setCell_ne (blk_setCell_ne (blk_setCell Hb2.out 0 (.slice a2 l.length c2)) (p := ⟨d, 1, none⟩) hBd (.int .i64 (l.length : Int))) (p := ⟨d, 2, none⟩) hBd (.map (some w2.heap.size))) (.map #[] 0))
 have Hd3 := Lib.hid (blk_alloc (blk_setCell (blk_setCell (blk_setCell_ne Hd2.out (p := ⟨B, 0, none⟩) hdB (.slice a2 l.length c2)) 1 (.int .i64 (l.length : Int))) 2 (.map (some w2.heap.size))) (.map #[] 0))
 have X3 : Ext (fun b => b = B ∨ b = d) w2 ((((w2.setCell ⟨B, 0, none⟩ (.slice a2 l.length c2)).setCell ⟨d, 1, none⟩ (.int .i64 (l.length : Int))).setCell ⟨d, 2, none⟩ (.map (some w2.heap.size))).alloc (.map #[] 0)) := ((((Ext.refl _ w2).setCell (.inl (.inl rfl)) _).setCell (.inl (.inr rfl)) _).setCell (.inl (.inr rfl)) _).alloc _
 have hm3 : MapIs ((((w2.setCell ⟨B, 0, none⟩ (.slice a2 l.length c2)).setCell ⟨d, 1, none⟩ (.int .i64 (l.length : Int))).setCell ⟨d, 2, none⟩ (.map (some w2.heap.size))).alloc (.map #[] 0)) w2.heap.size [] := ⟨#[], 0, by simpa using blk_new (((w2.setCell ⟨B, 0, none⟩ (.slice a2 l.length c2)).setCell ⟨d, 1, none⟩ (.int .i64 (l.length : Int))).setCell ⟨d, 2, none⟩ (.map (some w2.heap.size))) (.map #[] 0), MapKept.stamped_empty 0, rfl⟩
 generalize ((((w2.setCell ⟨B, 0, none⟩ (.slice a2 l.length c2)).setCell ⟨d, 1, none⟩ (.int .i64 (l.length : Int))).setCell ⟨d, 2, none⟩ (.map (some w2.heap.size))).alloc (.map #[] 0)) = w3 at Hb3 Hd3 X3 hm3 ⊢
 rw [hM] at Hd3 hm3
 clear hM hdl2 hBl2
 simp at Hb3 Hd3
 have ho3 : Own w3 5 1 (.slice a2 l.length c2) (bytesV l) := Ho2.out.ext X3 (fun g hg h => h.elim (fun e => Ho2.out.ne_blk Hb2.out (by decide) g hg e.symm) (fun e => Ho2.out.ne_blk Hd2.out (by decide) g hg e.symm))
 clear g0 g1 fz0 d1 d2 fz1 fz2
 have g0 : w3.cell? ⟨B, 0, none⟩ = some (.slice a2 l.length c2) := by rw [cell_of_blk Hb3.out]; rfl
 have g1 : w3.cell? ⟨B, 1, none⟩ = some (.int .i64 0) := by rw [cell_of_blk Hb3.out]; rfl
 have d2 : w3.cell? ⟨d, 2, none⟩ = some (.map (some M)) := by rw [cell_of_blk Hd3.out]; rfl
 have hm3' : MapIs w3.drew M [] := hm3
 obtain ⟨w4, hput, hm4, x4, hsz4⟩ := run_put (P := Tryz.prog) unMap unString hm3' s (.agg #[.slice a2 l.length c2, .int .i64 0])
 have Hm4 := Lib.hid hm4
 have Hx4 := Lib.hid x4
 have Hm3 := Lib.hid hm3
 have Ho3 := Lib.hid ho3
 have HX3 := Lib.hid X3
 clear hm4 x4 hsz4 hm3 ho3 hm3' X3
 go_still_tail 6, (by kernel_rfl)
 change wpList _ _ _ _ _ w3.drew
 go_wp2_with fail
 go_ret
 have hd := HD.out
 have hB := HB.out
 have hM := HM.out
 have hdF := hd.self
 have hlt := hd.lt
 have hs2 := Hx2.out.size
 have xW4 : Ext (fun b => b = d) w w4 :=
  (((Hx2.out.of_no).next HX3.out (fun x hx hl => hx.elim (fun e => by omega) (fun e => e))).drew).next Hx4.out (fun x hx hl => by have : x = M := hx; omega)
 have hGF : ∀ b, b = d → F b := fun b e => e ▸ hdF
 have hv2 : ∀ g, (Value.slice a2 l.length c2).ownBlock = some g → (F g ∨ w.heap.size ≤ g) ∧ ∀ y ∈ ([] : List RFile), y.name ≠ s → y.v.ownBlock ≠ some g := by
  intro g hg
  rcases Hh2.out with h | ⟨g', h1, h2⟩
  ·rw [h] at hg; cases hg
  ·rw [h1] at hg; cases hg
   have := x1.size
   exact ⟨.inr (by omega), fun y hy => by cases hy⟩
 have hxl : Own w4 5 1 (.slice a2 l.length c2) (bytesV l) := by
  have h3' : Own w3.drew 5 1 (.slice a2 l.length c2) (bytesV l) := Ho3.out
  exact h3'.ext Hx4.out (fun g hg e => Hm3.out.ne_own Ho3.out g hg (Eq.symm e))
 have hb4 : w4.heap[d]? = some (.cells #[.int .i64 room, .int .i64 (l.length : Nat), .map (some M)] 87 (0, 0)) := by
  have hd3 : w3.drew.heap[d]? = some (.cells #[.int .i64 room, .int .i64 (l.length : Int), .map (some M)] 87 (0, 0)) := Hd3.out
  exact Hx4.out.blk hd3 (fun e => Hm3.out.ne_blk Hd3.out (Eq.symm e))
 exact ⟨rfl, xW4.mono (fun b _ hb => hGF b hb), _, _, hd.put (r := ⟨s, .slice a2 l.length c2, ⟨l, 0⟩⟩) xW4 hGF (by intro y hy; cases hy) hb4 (by simp [rsPut, rsGet, usedL, RFile.pf]) (by omega) Hm4.out (.inr (by omega)) hxl hv2 hn (by simp [rsPut, rsGet])⟩
end Go.Proofs.YtgglbholbkdgfaaGreatDoor
namespace Go.Proofs.YtgglbholbkdgfaaGreatDoor
open Go.RowKit
def fApp (f : Option PFile) (l : List UInt8) : PFile := match f with | some f => ⟨f.data ++ l, f.lasts⟩ | none => ⟨l, 0⟩
theorem Append_ok (d : Nat) (F : Nat → Prop) (D : PDisk) (s : ByteArray) (p : Value) (l : List UInt8) (w : World) (hd : DiskIs w d F D) (hp : RdB w p l) (hoff : Off F p)
  (hn : isNm s = true) (hfit : l.length + usedL D.files ≤ D.room) (hcnt : D.files.length < 256) :
  Calls Tryz.prog 110 #[.pointer (some ⟨d, 0, none⟩), .string s, p] w fun e w' => e = .returned (.int .i64 0) ∧ Ext F w w' ∧
   DiskIs w' d (Gr F w w') ⟨D.room, fsPut D.files s (fApp (fsGet D.files s) l)⟩ := by
 obtain ⟨mo, rs, hd, e⟩ := hd
 rw [e] at hfit hcnt
 cases hr : rsGet rs s with
 | some r =>
  refine (Append_found d F D.room mo rs s p l w hd hp hoff hn r hr hfit).mono ?_
  rintro e' w' ⟨h1, h2, v, mo', h3⟩
  exact ⟨h1, h2, mo', _, h3, by rw [rsPut_pf, e, rsGet_pf, hr]; rfl⟩
 | none =>
  rcases hd.map with ⟨rfl, rfl⟩ | ⟨m, rfl, _⟩
  ·refine (Append_first d F D.room s p l w hd hp hoff hn (by simp [usedL] at hfit; exact hfit)).mono ?_
   rintro e' w' ⟨h1, h2, v, mo', h3⟩
   exact ⟨h1, h2, mo', _, h3, by rw [rsPut_pf, e, rsGet_pf, hr]; rfl⟩
  ·refine (Append_new d F D.room m rs s p l w hd hp hoff hn hr hfit (by simpa using hcnt)).mono ?_
   rintro e' w' ⟨h1, h2, v, mo', h3⟩
   exact ⟨h1, h2, mo', _, h3, by rw [rsPut_pf, e, rsGet_pf, hr]; rfl⟩
end Go.Proofs.YtgglbholbkdgfaaGreatDoor
