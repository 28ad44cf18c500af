/- Maps keyed by strings whose elements are whatever they are: what the operations do to the list of keys and elements. No program in sight. -/
import Derived.Test.YtgglbholbkdgfaaGreatDoorB0
import Derived.ChangeMaps4
import Derived.ChangeMaps5
import Derived.MapKept
import Derived.Maps.Own
namespace Go.Proofs.YtgglbholbkdgfaaGreatDoor
open Go.RowKit Go.MapKept

/-- Block m is a map that holds just these keys and elements, in this order. -/
def MapIs (w : World) (m : Nat) (kv : List (ByteArray × Value)) : Prop :=
  ∃ es clock, w.heap[m]? = some (.map es clock) ∧ Stamped es clock ∧ es.toList.map (fun e => (e.key, e.val)) = kv.map (fun p => (Value.string p.1, p.2))
def kvGet (kv : List (ByteArray × Value)) (s : ByteArray) : Option Value := (kv.find? (fun p => decide (p.1 = s))).map (·.2)
def kvPut (kv : List (ByteArray × Value)) (s : ByteArray) (v : Value) : List (ByteArray × Value) :=
  if (kvGet kv s).isSome then kv.map (fun p => if p.1 = s then (s, v) else p) else kv ++ [(s, v)]
def kvDel (kv : List (ByteArray × Value)) (s : ByteArray) : List (ByteArray × Value) := kv.filter (fun p => decide (p.1 ≠ s))

theorem MapIs.lt {w : World} {m : Nat} {kv : List (ByteArray × Value)} (h : MapIs w m kv) : m < w.heap.size := by obtain ⟨_, _, hb, _⟩ := h; exact lt_of_blk hb
theorem MapIs.ext {w w' : World} {F : Nat → Prop} {m : Nat} {kv : List (ByteArray × Value)} (h : MapIs w m kv) (x : Ext F w w') (hF : ¬ F m) : MapIs w' m kv := by
  obtain ⟨es, clock, hb, r⟩ := h
  exact ⟨es, clock, x.blk hb hF, r⟩
theorem MapIs.ne_blk {w : World} {m : Nat} {kv : List (ByteArray × Value)} (h : MapIs w m kv) {b : Nat} {cs : Array Value} {t : TypeId} {fr : Nat × Nat} (hb : w.heap[b]? = some (.cells cs t fr)) : m ≠ b := by
  obtain ⟨es, c, hm, _⟩ := h
  rintro rfl
  rw [hb] at hm; cases hm
theorem MapIs.ne_own {w : World} {m : Nat} {kv : List (ByteArray × Value)} (h : MapIs w m kv) {e size : Nat} {v : Value} {xs : List Value} (ho : Own w e size v xs) : ∀ g, v.ownBlock = some g → m ≠ g := by
  obtain ⟨es, c, hm, _⟩ := h
  exact ho.ne_map hm
theorem MapIs.isKey {es : Array MapEntry} {kv : List (ByteArray × Value)} (h : es.toList.map (fun e => (e.key, e.val)) = kv.map (fun p => (Value.string p.1, p.2))) : ∀ x ∈ es.toList, IsKey .string x.key := by
  intro x hx
  have : (x.key, x.val) ∈ es.toList.map (fun e => (e.key, e.val)) := List.mem_map.2 ⟨x, hx, rfl⟩
  rw [h] at this
  obtain ⟨p, _, hp⟩ := List.mem_map.1 this
  have : x.key = .string p.1 := (congrArg Prod.fst hp).symm
  rw [this]; trivial
theorem MapIs.nodup {w : World} {m : Nat} {kv : List (ByteArray × Value)} (h : MapIs w m kv) : (kv.map (·.1)).Nodup := by
  obtain ⟨es, clock, hb, hs, he⟩ := h
  have h3 := hs.2.2
  have : es.toList.map (·.key) = (kv.map (·.1)).map Value.string := by
    have := congrArg (List.map Prod.fst) he
    simp only [List.map_map] at this ⊢
    exact this
  rw [this] at h3
  exact List.Pairwise.of_map Value.string (fun a b h e => h (by rw [e])) h3
theorem MapIs.len {es : Array MapEntry} {kv : List (ByteArray × Value)} (h : es.toList.map (fun e => (e.key, e.val)) = kv.map (fun p => (Value.string p.1, p.2))) : es.size = kv.length := by
  have := congrArg List.length h
  simpa using this

theorem map_eraseIdx' {α β : Type} (f : α → β) : ∀ (l : List α) (i : Nat), (l.eraseIdx i).map f = (l.map f).eraseIdx i
  | [], _ => by simp
  | a :: l, 0 => by simp
  | a :: l, i + 1 => by simp [map_eraseIdx' f l i]
/-- What a search for a key comes to. -/
theorem find_kv (s : ByteArray) : ∀ (es : List MapEntry) (kv : List (ByteArray × Value)) (i : Nat), es.map (fun e => (e.key, e.val)) = kv.map (fun p => (Value.string p.1, p.2)) →
    (Instr.findNow .string (.string s) es i = some none ∧ kvGet kv s = none ∧ s ∉ kv.map (·.1)) ∨ ∃ j v, Instr.findNow .string (.string s) es i = some (some (i + j, v)) ∧ kvGet kv s = some v ∧ kv[j]? = some (s, v)
  | [], [], _, _ => .inl ⟨rfl, rfl, by simp⟩
  | [], _ :: _, _, h => by simp at h
  | _ :: _, [], _, h => by simp at h
  | e :: es, p :: kv, i, h => by
    simp only [List.map_cons, List.cons.injEq, Prod.mk.injEq] at h
    obtain ⟨⟨hk, hv⟩, ht⟩ := h
    have hs : Instr.sameNow .string (.string s) e.key = some (s == p.1) := by rw [hk]; rfl
    by_cases heq : p.1 = s
    · have hb : (s == p.1) = true := (bytes_beq _ _).2 heq.symm
      refine .inr ⟨0, e.val, ?_, ?_, ?_⟩
      · simp [Instr.findNow, hs, hb]
      · simp [kvGet, List.find?, heq, hv]
      · simp [← heq, hv]
    · have hb : (s == p.1) = false := by
        rcases h : (s == p.1) with _ | _
        · rfl
        · exact (heq ((bytes_beq _ _).1 h).symm).elim
      rcases find_kv s es kv (i + 1) ht with ⟨h1, h2, h3⟩ | ⟨j, v, h1, h2, h3⟩
      · refine .inl ⟨by simp [Instr.findNow, hs, hb, h1], ?_, ?_⟩
        · simpa [kvGet, List.find?, heq] using h2
        · simp only [List.map_cons, List.mem_cons, not_or]; exact ⟨fun e => heq e.symm, h3⟩
      · refine .inr ⟨j + 1, v, ?_, ?_, by simpa using h3⟩
        · simp [Instr.findNow, hs, hb, h1]; omega
        · simpa [kvGet, List.find?, heq] using h2

section
variable {P : Program} {T K E : TypeId} (hm : P.underlying T = some (.map K E)) (hk : P.underlying K = some .string)
include hm hk
theorem run_look {w : World} {m : Nat} {kv : List (ByteArray × Value)} (h : MapIs w m kv) (s : ByteArray) (z : Value) (hz : (zeroValue E).run P w = .ok z w) :
    (Instr.lookup T (.map (some m)) (.string s) true).run P w = .ok (.tuple #[(kvGet kv s).getD z, .bool (kvGet kv s).isSome]) w ∧
    (Instr.lookup T (.map (some m)) (.string s) false).run P w = .ok ((kvGet kv s).getD z) w := by
  obtain ⟨es, clock, hb, hs, he⟩ := h
  have hchk : ∀ b, (Instr.checkKey b 10000 K (.string s)).run P w = .ok () w := fun b => run_checkKey hk (show IsKey .string (.string s) from trivial) b 9999
  rcases find_kv s es.toList kv 0 he with ⟨h1, h2, _⟩ | ⟨j, v, h1, h2, _⟩
  · have hf := run_findKey (w := w) hk h1
    constructor <;> simp [Instr.lookup, run_underlying hm, MapKept.run_getObj_map hb, hchk, hf, hz, h2, Result.andThen]
  · have hf := run_findKey (w := w) hk h1
    constructor <;> simp [Instr.lookup, run_underlying hm, MapKept.run_getObj_map hb, hchk, hf, h2, Result.andThen]
theorem run_look_nil {w : World} (s : ByteArray) (z : Value) (hz : (zeroValue E).run P w = .ok z w) :
    (Instr.lookup T (.map none) (.string s) true).run P w = .ok (.tuple #[z, .bool false]) w ∧ (Instr.lookup T (.map none) (.string s) false).run P w = .ok z w := by
  have hchk : ∀ b, (Instr.checkKey b 10000 K (.string s)).run P w = .ok () w := fun b => run_checkKey hk (show IsKey .string (.string s) from trivial) b 9999
  have hf : (Instr.findKey K (.string s) []).run P w = .ok none w := run_findKey hk rfl
  constructor <;> simp [Instr.lookup, run_underlying hm, hchk, hf, hz, Result.andThen]
theorem run_put {w : World} {m : Nat} {kv : List (ByteArray × Value)} (h : MapIs w m kv) (s : ByteArray) (v : Value) :
    ∃ w', (Instr.mapUpdate T (.map (some m)) (.string s) v).run P w = .ok () w' ∧ MapIs w' m (kvPut kv s v) ∧ Ext (OneB m) w w' ∧ w'.heap.size = w.heap.size := by
  have hnd := h.nodup
  obtain ⟨es, clock, hb, hs, he⟩ := h
  have hchk : ∀ b, (Instr.checkKey b 10000 K (.string s)).run P w = .ok () w := fun b => run_checkKey hk (show IsKey .string (.string s) from trivial) b 9999
  have hext : ∀ o, Ext (OneB m) w { w with heap := w.heap.setIfInBounds m o } := fun o => ⟨rfl, rfl, rfl, by simp, fun k _ hne => (heap_set hb).2 k hne⟩
  rcases find_kv s es.toList kv 0 he with ⟨h1, h2, h3⟩ | ⟨j, u, h1, h2, h3⟩
  · have hf := run_findKey (w := w) hk h1
    refine ⟨{ w with heap := w.heap.setIfInBounds m (.map (es.push { key := .string s, val := v, born := clock }) (clock + 1)) }, ?_, ⟨_, _, (heap_set hb).1, stamped_push hs ?_, ?_⟩, hext _, by simp⟩
    · simp [Instr.mapUpdate, run_underlying hm, MapKept.run_getObj_map hb, hchk, hf, MapKept.run_setObj_map _ hb, Result.andThen]
    · intro x hx e
      have : (x.key, x.val) ∈ es.toList.map (fun e => (e.key, e.val)) := List.mem_map.2 ⟨x, hx, rfl⟩
      rw [he] at this
      obtain ⟨p, hp, hpe⟩ := List.mem_map.1 this
      have hpk : Value.string p.1 = x.key := congrArg Prod.fst hpe
      rw [e] at hpk
      injection hpk with hpk
      exact h3 (List.mem_map.2 ⟨p, hp, hpk⟩)
    · simp [kvPut, h2, he]
  · have hf := run_findKey (w := w) hk h1
    have hj : j < kv.length := (List.getElem?_eq_some_iff.1 h3).1
    have hsz := MapIs.len he
    have hje : ∃ e, es[j]? = some e ∧ e.key = .string s := by
      have := congrArg (fun l => l[j]?) he
      simp only [List.getElem?_map, h3, Array.getElem?_toList, Option.map_some] at this
      cases hq : es[j]? with
      | none => rw [hq] at this; cases this
      | some e => rw [hq] at this; simp at this; exact ⟨e, rfl, this.1⟩
    obtain ⟨e, hej, hek⟩ := hje
    refine ⟨{ w with heap := w.heap.setIfInBounds m (.map (es.modify j fun e => { e with key := .string s, val := v }) clock) }, ?_, ⟨_, _, (heap_set hb).1, stamped_modify hs j _ (by intro e _; rfl) ?_, ?_⟩, hext _, by simp⟩
    · have hst := run_keyThatStays (P := P) (w := w) (show IsKey .string (.string s) from trivial)
      simp [Instr.mapUpdate, run_underlying hm, MapKept.run_getObj_map hb, hchk, hf, hej, hek, hst, MapKept.run_setObj_map _ hb, Result.andThen]
    · intro e' _ he'
      rw [hej] at he'; cases he'; exact hek.symm
    · rw [kvPut, h2]
      simp only [Option.isSome_some, if_true]
      apply List.ext_getElem?
      intro i
      have hi := congrArg (fun l => l[i]?) he
      simp only [List.getElem?_map, Array.getElem?_toList] at hi
      simp only [List.getElem?_map, Array.getElem?_toList, Array.getElem?_modify]
      by_cases hij : j = i
      · subst hij
        simp [hej, h3]
      · rw [if_neg hij]
        rw [hi]
        cases hki : kv[i]? with
        | none => rfl
        | some p =>
          have hne : p.1 ≠ s := by
            intro hps
            have h1' : (kv.map (·.1))[i]? = some s := by simp [hki, hps]
            have h2' : (kv.map (·.1))[j]? = some s := by simp [h3]
            exact hij ((List.getElem?_inj (by simpa using hj) hnd).1 (h2'.trans h1'.symm))
          simp [hne]
theorem run_del {w : World} {m : Nat} {kv : List (ByteArray × Value)} (h : MapIs w m kv) (s : ByteArray) (ty : TypeId) :
    ∃ w', (Builtin.delete_ #[T, K] ty #[.map (some m), .string s]).run P w = .ok (.tuple #[]) w' ∧ MapIs w' m (kvDel kv s) ∧ Ext (OneB m) w w' ∧ w'.heap.size = w.heap.size := by
  have hnd := h.nodup
  obtain ⟨es, clock, hb, hs, he⟩ := h
  have hchk : ∀ b, (Instr.checkKey b 10000 K (.string s)).run P w = .ok () w := fun b => run_checkKey hk (show IsKey .string (.string s) from trivial) b 9999
  have hext : ∀ o, Ext (OneB m) w { w with heap := w.heap.setIfInBounds m o } := fun o => ⟨rfl, rfl, rfl, by simp, fun k _ hne => (heap_set hb).2 k hne⟩
  rcases find_kv s es.toList kv 0 he with ⟨h1, h2, h3⟩ | ⟨j, u, h1, h2, h3⟩
  · have hf := run_findKey (w := w) hk h1
    refine ⟨{ w with heap := w.heap.setIfInBounds m (.map es clock) }, ?_, ⟨_, _, (heap_set hb).1, hs, ?_⟩, hext _, by simp⟩
    · simp [Builtin.delete_, run_underlying hm, MapKept.run_getObj_map hb, hchk, hf, MapKept.run_setObj_map _ hb, Result.andThen]
    · have : kvDel kv s = kv := by
        unfold kvDel
        rw [List.filter_eq_self]
        intro p hp
        simp only [decide_eq_true_eq]
        intro e
        exact h3 (List.mem_map.2 ⟨p, hp, e⟩)
      rw [this]; exact he
  · have hf := run_findKey (w := w) hk h1
    have hj : j < kv.length := (List.getElem?_eq_some_iff.1 h3).1
    have hsz := MapIs.len he
    refine ⟨{ w with heap := w.heap.setIfInBounds m (.map (es.eraseIdxIfInBounds j) clock) }, ?_, ⟨_, _, (heap_set hb).1, stamped_erase hs j, ?_⟩, hext _, by simp⟩
    · simp [Builtin.delete_, run_underlying hm, MapKept.run_getObj_map hb, hchk, hf, MapKept.run_setObj_map _ hb, Result.andThen]
    · have e1 : (es.eraseIdxIfInBounds j).toList = es.toList.eraseIdx j := by
        unfold Array.eraseIdxIfInBounds
        rw [dif_pos (by omega)]
        simp
      rw [e1, map_eraseIdx', he, ← map_eraseIdx']
      congr 1
      unfold kvDel
      have : ∀ (kv : List (ByteArray × Value)) (j : Nat), (kv.map (·.1)).Nodup → kv[j]? = some (s, u) → kv.eraseIdx j = kv.filter (fun p => decide (p.1 ≠ s)) := by
        intro kv
        induction kv with
        | nil => intro j _ h; simp at h
        | cons p kv ih =>
          intro j hn h
          simp only [List.map_cons, List.nodup_cons] at hn
          cases j with
          | zero =>
            simp at h; subst h
            have : kv.filter (fun p => decide (p.1 ≠ s)) = kv := by
              rw [List.filter_eq_self]
              intro q hq
              simp only [decide_eq_true_eq]
              intro e
              exact hn.1 (List.mem_map.2 ⟨q, hq, e⟩)
            simp only [List.eraseIdx_zero, List.tail_cons]
            rw [List.filter_cons_of_neg (by simp), this]
          | succ j =>
            simp only [List.getElem?_cons_succ] at h
            have hp : p.1 ≠ s := fun e => hn.1 (List.mem_map.2 ⟨(s, u), List.mem_of_getElem? h, e.symm⟩)
            rw [List.eraseIdx_cons_succ, List.filter_cons_of_pos (by simpa using hp), ih j hn.2 h]
      exact this kv j hnd h3
/-- 'delete(m, s)' in a list of operations. -/
theorem wpList_del {w : World} {ops : Array Oper} {rest : List Oper} {o : Oper} {a : Act} {Q : Exit → Act → World → Prop} (hg : o.guard = none) (mo x : Operand)
    (hop : o.op = Op.call { callee := Callee.builtin Builtin.delete, args := #[mo, x], argTypes := #[T, K] }) {m : Nat} {kv : List (ByteArray × Value)} (h : MapIs w m kv) (s : ByteArray)
    (hmo : a.eval mo = .map (some m)) (hx : a.eval x = .string s)
    (hK : ∀ w', MapIs w' m (kvDel kv s) → Ext (OneB m) w w' → w'.heap.size = w.heap.size → wpList P ops Q rest (a.put o.dst (.tuple #[])) w') : wpList P ops Q (o :: rest) a w := by
  refine wpList_plain hg fun K' hK' => ?_
  obtain ⟨w', hrun, r1, r2, r3⟩ := run_del hm hk h s o.type
  unfold Oper.wp
  simp [execOp, hop, resolve, invoke, builtin, hmo, hx, hrun, Result.andThen]
  exact hK' _ _ (hK w' r1 r2 r3)
end
theorem MapIs.setCell {w : World} {m : Nat} {kv : List (ByteArray × Value)} (h : MapIs w m kv) {p : Addr} (hne : m ≠ p.block) (v : Value) : MapIs (w.setCell p v) m kv :=
  h.ext (F := OneB p.block) ((Ext.refl (OneB p.block) w).setCell (.inl rfl) v) hne
end Go.Proofs.YtgglbholbkdgfaaGreatDoor
