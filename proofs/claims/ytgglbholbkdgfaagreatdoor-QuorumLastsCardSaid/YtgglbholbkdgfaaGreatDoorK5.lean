/- Joined texts: BN B19 B20 B21 B22L B22. Each has its own head. -/
import Derived.OrdersHeld
import Derived.StillTail
import Derived.Tactics
import Derived.Deep.RegionHeld3
import Derived.Test.YtgglbholbkdgfaaGreatDoorK4
set_option linter.unusedVariables false
set_option linter.unusedSimpArgs false
namespace Go.Proofs.YtgglbholbkdgfaaGreatDoor
open Go
section
variable {P : Program} {ops : Array Oper} {Q : Exit → Act → World → Prop} {md : Region.Mode} {S : World → Prop} {n : Nat}
def noTail (ops : Array Oper) (n : Nat) (listed : Array Bool) : Bool := (List.range ops.size).all fun t => decide (t < n) || !(listed.getD t false)
def wpAnyN (P : Program) (md : Region.Mode) (ops : Array Oper) (Q : Exit → Act → World → Prop) (S : World → Prop) (n : Nat) : Nat → Array Bool → Act → World → Prop
 | 0, listed, a, w => Region.ready md ops listed = [] ∧ Q .normal a w
 | fuel + 1, listed, a, w =>
  (Region.ready md ops listed = [] → Q .normal a w) ∧
  ∀ i ∈ Region.ready md ops listed, wpOp P ops Q i (fun a' w' => (noTail ops n (listed.setIfInBounds i true) = true → S w') ∧ wpAnyN P md ops Q S n fuel (listed.setIfInBounds i true) a' w') a w
theorem wpAny_of_N : ∀ (fuel : Nat) (listed : Array Bool) (a : Act) (w : World), wpAnyN P md ops Q S n fuel listed a w → wpAny P md ops Q fuel listed a w
 | 0, _, _, _, h => h
 | fuel + 1, _, _, _, h => ⟨h.1, fun i hi => wpOp_mono (fun a' w' h' => wpAny_of_N fuel _ a' w' h'.2) (h.2 i hi)⟩
theorem getD_setNe {listed : Array Bool} {i j : Nat} (h : i ≠ j) : (listed.setIfInBounds i true).getD j false = listed.getD j false := getD_set_ne false h
theorem noTail_set {listed : Array Bool} {i : Nat} (hi : i < n) : noTail ops n (listed.setIfInBounds i true) = noTail ops n listed := by
 unfold noTail
 congr 1
 funext t
 by_cases h : t < n
 ·simp [h]
 ·rw [getD_setNe (by omega)]
theorem noTail_of_set {listed : Array Bool} {i : Nat} (h : noTail ops n (listed.setIfInBounds i true) = true) : noTail ops n listed = true := by
 unfold noTail at h ⊢
 rw [List.all_eq_true] at h ⊢
 intro t ht
 have := h t ht
 by_cases hti : i = t
 ·subst hti
  simp only [Bool.or_eq_true, decide_eq_true_eq, Bool.not_eq_true'] at this ⊢
  rcases this with h | h
  ·exact .inl h
  ·refine .inr ?_
   cases hl : listed.getD i false with
   | false => rfl
   | true => rw [getD_set_true hl] at h; cases h
 ·rwa [getD_setNe hti] at this
def depB (md : Region.Mode) (ops : Array Oper) : Nat → Nat → Nat → Bool
 | 0, _, _ => false
 | f + 1, t, i => Region.waitsFor md ops t i || (List.range ops.size).any fun j => Region.waitsFor md ops t j && depB md ops f j i
def Closed (md : Region.Mode) (ops : Array Oper) (listed : Array Bool) : Prop := ∀ (j : Nat) (oj : Oper), ops[j]? = some oj → listed.getD j false = true → ∀ e ∈ oj.after, Region.binds md e = true → listed.getD e.on false = true
def closedB (md : Region.Mode) (ops : Array Oper) (listed : Array Bool) : Bool :=
 (List.range ops.size).all fun j => !(listed.getD j false) || match ops[j]? with | some oj => oj.after.all (fun e => !(Region.binds md e) || listed.getD e.on false) | none => true
theorem closed_of {listed : Array Bool} (h : closedB md ops listed = true) : Closed md ops listed := fun j oj hj hl e he hb => by
 have h4 := List.all_eq_true.1 h j (List.mem_range.2 (Array.getElem?_eq_some_iff.1 hj).1)
 simp only [hl, hj, Bool.not_true, Bool.false_or] at h4
 have h5 := Array.all_eq_true_iff_forall_mem.1 h4 e he
 simpa [hb] using h5
theorem Closed.set {listed : Array Bool} (h : Closed md ops listed) {i : Nat} (hi : i ∈ Region.ready md ops listed) : Closed md ops (listed.setIfInBounds i true) := by
 obtain ⟨_, oi, hoi, hall⟩ := mem_ready.1 hi
 intro j oj hj hl e he hb
 by_cases hij : i = j
 ·subst hij
  have : oj = oi := Option.some.inj (hj.symm.trans hoi)
  subst this
  exact getD_set_true (hall e he hb)
 ·rw [getD_set_ne false hij] at hl
  exact getD_set_true (h j oj hj hl e he hb)
theorem dep_listed {listed : Array Bool} (hc : Closed md ops listed) : ∀ (f j i : Nat), depB md ops f j i = true → listed.getD j false = true → listed.getD i false = true
 | 0, _, _, h, _ => by cases h
 | f + 1, j, i, h, hl => by
  simp only [depB, Bool.or_eq_true, List.any_eq_true, Bool.and_eq_true] at h
  rcases h with h | ⟨k, _, h1, h2⟩
  ·obtain ⟨oj, hoj, e, he, hb, hon⟩ := Region.waitsFor_spec h
   exact hon ▸ hc j oj hoj hl e he hb
  ·obtain ⟨oj, hoj, e, he, hb, hon⟩ := Region.waitsFor_spec h1
   exact dep_listed hc f k i h2 (hon ▸ hc j oj hoj hl e he hb)
theorem dep_ready {listed : Array Bool} (hc : Closed md ops listed) {f j i : Nat} (h : depB md ops f j i = true) (hr : j ∈ Region.ready md ops listed) : listed.getD i false = true := by
 obtain ⟨_, oj, hoj, hall⟩ := mem_ready.1 hr
 cases f with
 | zero => cases h
 | succ f =>
  simp only [depB, Bool.or_eq_true, List.any_eq_true, Bool.and_eq_true] at h
  rcases h with h | ⟨k, _, h1, h2⟩
  ·obtain ⟨oj', hoj', e, he, hb, hon⟩ := Region.waitsFor_spec h
   have : oj' = oj := Option.some.inj (hoj'.symm.trans hoj)
   subst this
   exact hon ▸ hall e he hb
  ·obtain ⟨oj', hoj', e, he, hb, hon⟩ := Region.waitsFor_spec h1
   have : oj' = oj := Option.some.inj (hoj'.symm.trans hoj)
   subst this
   exact dep_listed hc f k i h2 (hon ▸ hall e he hb)
theorem wpAnyN_first {S0 : World → Prop} {i : Nat} {oi : Oper} {v : Value} (hi : ops[i]? = some oi) (hsel : ∀ (j : Nat) (o : Oper) cs b, ops[j]? = some o → o.op ≠ .select cs b) (hin : i < n)
  (h0 : (∀ w, S0 w) ∨ ((∀ w, S w → S0 w) ∧ ∀ t, n ≤ t → t < ops.size → ∃ f, depB md ops f t i = true))
  (hQ : ∀ c a w, Q (.panic c) (a.put oi.dst v) w → Q (.panic c) a w) :
  ∀ (fuel : Nat) (listed : Array Bool) (a : Act) (w : World), Closed md ops listed →
   (∀ j oj, ops[j]? = some oj → j ≠ i → listed.getD j true = false → (∀ e ∈ oj.after, Region.binds md e = true → e.on ≠ i) → oi.apart ops oj = true) →
   i ∈ Region.ready md ops listed → YieldsIf P ops S0 oi v a → (noTail ops n listed = true → S w) → ((∀ w, S0 w) ∨ noTail ops n listed = true) →
   wpAnyN P md ops Q S n fuel (listed.setIfInBounds i true) (a.put oi.dst v) w → wpAnyN P md ops Q S n (fuel + 1) listed a w := by
 intro fuel
 induction fuel with
 | zero =>
  intro listed a w _ _ hr hy hS hS0 H
  have hw0 : S0 w := by
   rcases h0 with h | h
   ·exact h w
   ·rcases hS0 with h' | h'
    ·exact h' w
    ·exact h.1 w (hS h')
  refine ⟨fun h => (by rw [h] at hr; cases hr), fun j hj => ?_⟩
  by_cases hji : j = i
  ·subst hji; exact hy.wpOp hi hw0 ⟨fun h => hS (noTail_of_set h), H⟩
  ·have := ready_mono hj hji
   rw [H.1] at this
   cases this
 | succ fuel ih =>
  intro listed a w hcl hfree hr hy hS hS0 H
  have hw0 : S0 w := by
   rcases h0 with h | h
   ·exact h w
   ·rcases hS0 with h' | h'
    ·exact h' w
    ·exact h.1 w (hS h')
  refine ⟨fun h => (by rw [h] at hr; cases hr), fun j hj => ?_⟩
  by_cases hji : j = i
  ·subst hji; exact hy.wpOp hi hw0 ⟨fun h => hS (noTail_of_set h), H⟩
  ·have h1 := H.2 j (ready_mono hj hji)
   obtain ⟨hjun, oj, hoj, hall⟩ := mem_ready.1 hj
   have hnot : ∀ e ∈ oj.after, Region.binds md e = true → e.on ≠ i := fun e he hb heq => by
    have h1 := hall e he hb
    have h0 := (mem_ready.1 hr).1
    rw [heq] at h1
    rcases Nat.lt_or_ge i listed.size with h' | h'
    ·simp [h'] at h0 h1; rw [h0] at h1; cases h1
    ·simp [Array.getElem?_eq_none h'] at h1
   have hjn : (∀ w, S0 w) ∨ j < n := by
    rcases h0 with h | h
    ·exact .inl h
    ·refine .inr (Nat.lt_of_not_le fun hnj => ?_)
     obtain ⟨f, hf⟩ := h.2 j hnj (Array.getElem?_eq_some_iff.1 hoj).1
     have h3 := dep_ready hcl hf hj
     have h4 := (mem_ready.1 hr).1
     rw [getD_both h4] at h3
     cases h3
   have h2 := wpOp_putIf hoj (hfree j oj hoj hji hjun hnot) (fun cs b => hsel i oi cs b hi) (fun cs b => hsel j oj cs b hoj) hQ hy h1
   have hfree' : ∀ k ok, ops[k]? = some ok → k ≠ i → (listed.setIfInBounds j true).getD k true = false →
     (∀ e ∈ ok.after, Region.binds md e = true → e.on ≠ i) → oi.apart ops ok = true := fun k ok hk hki hun hno => by
    refine hfree k ok hk hki ?_ hno
    by_cases hjk : j = k
    ·subst hjk; exact hjun
    ·rw [getD_set_ne true hjk] at hun; exact hun
   have hnt : noTail ops n ((listed.setIfInBounds i true).setIfInBounds j true) = noTail ops n (listed.setIfInBounds j true) := by
    rw [Array.setIfInBounds_comm _ _ (Ne.symm hji), noTail_set hin]
   refine wpOp_mono (fun a' w' h3 => ?_) h2
   obtain ⟨h4, h5, h6⟩ := h3
   rw [hnt] at h5
   refine ⟨h5, ih (listed.setIfInBounds j true) a' w' (hcl.set hj) hfree' (ready_mono hr (Ne.symm hji)) h4 h5 ?_ ?_⟩
   ·rcases hS0 with h | h
    ·exact .inl h
    ·rcases hjn with h' | h'
     ·exact .inl h'
     ·exact .inr (by rw [noTail_set h']; exact h)
   ·rw [Array.setIfInBounds_comm _ _ hji]
    exact h6
def freeB (md : Region.Mode) (ops : Array Oper) (n : Nat) (listed : Array Bool) (i : Nat) : Bool :=
 (Region.ready md ops listed).contains i && Region.free md ops listed i && decide (i < n) && Region.noSelect ops && noTail ops n listed && closedB md ops listed
def takeB (md : Region.Mode) (ops : Array Oper) (n : Nat) (listed : Array Bool) (i : Nat) : Bool :=
 freeB md ops n listed i && ((List.range ops.size).all fun t => decide (t < n) || depB md ops 12 t i)
theorem wpAnyN_free (i : Nat) {oi : Oper} {v : Value} {fuel : Nat} {listed : Array Bool} {a : Act} {w : World} (hb : freeB md ops n listed i = true) (hi : ops[i]? = some oi)
  (hQ : ∀ c a w, Q (.panic c) (a.put oi.dst v) w → Q (.panic c) a w) (hS : S w) (hw : Region.wanted oi (yielded ops a.tmps) = true) (hy : ∀ w, (execOp a.eval oi).run P w = .ok (.value v) w)
  (h : wpAnyN P md ops Q S n fuel (listed.setIfInBounds i true) (a.put oi.dst v) w) : wpAnyN P md ops Q S n (fuel + 1) listed a w := by
 unfold freeB at hb
 simp only [Bool.and_eq_true, decide_eq_true_eq] at hb
 obtain ⟨⟨⟨⟨⟨h1, h2⟩, h3⟩, h6⟩, h7⟩, hcl⟩ := hb
 exact wpAnyN_first (S0 := fun _ => True) hi (Region.noSelect_spec h6) h3 (.inl fun _ => trivial) hQ fuel listed a w (closed_of hcl) (Region.free_spec hi h2) (by simpa using h1) (.inl ⟨hw, fun w _ => hy w⟩) (fun _ => hS) (.inr h7) h
theorem wpAnyN_take (i : Nat) {oi : Oper} {v : Value} {fuel : Nat} {listed : Array Bool} {a : Act} {w : World} (hb : takeB md ops n listed i = true) (hi : ops[i]? = some oi)
  (hQ : ∀ c a w, Q (.panic c) (a.put oi.dst v) w → Q (.panic c) a w) (hS : S w) (hw : Region.wanted oi (yielded ops a.tmps) = true) (hy : ∀ w, S w → (execOp a.eval oi).run P w = .ok (.value v) w)
  (h : wpAnyN P md ops Q S n fuel (listed.setIfInBounds i true) (a.put oi.dst v) w) : wpAnyN P md ops Q S n (fuel + 1) listed a w := by
 unfold takeB freeB at hb
 simp only [Bool.and_eq_true, decide_eq_true_eq] at hb
 obtain ⟨⟨⟨⟨⟨⟨h1, h2⟩, h3⟩, h6⟩, h7⟩, hcl⟩, h8⟩ := hb
 refine wpAnyN_first (S0 := S) hi (Region.noSelect_spec h6) h3 (.inr ⟨fun _ h => h, fun t ht hlt => ?_⟩) hQ fuel listed a w (closed_of hcl) (Region.free_spec hi h2) (by simpa using h1) (.inl ⟨hw, hy⟩) (fun _ => hS) (.inr h7) h
 have h9 := List.all_eq_true.1 h8 t (List.mem_range.2 hlt)
 have : decide (t < n) = false := by simp; omega
 exact ⟨12, by simpa [this] using h9⟩
def oneB (md : Region.Mode) (ops : Array Oper) (n : Nat) (listed : Array Bool) (i : Nat) : Bool := decide (Region.ready md ops listed = [i]) && decide (i < n)
theorem wpAnyN_one (i : Nat) {oi : Oper} {fuel : Nat} {listed : Array Bool} {a : Act} {w : World} (hb : oneB md ops n listed i = true) (hi : ops[i]? = some oi) (hw : Region.wanted oi (yielded ops a.tmps) = true)
  (h : ∀ K : Act → World → Prop, Shut (∀ a' w', S w' → (S w' → wpAnyN P md ops Q S n fuel (listed.setIfInBounds i true) a' w') → K a' w') → Oper.wp P oi a w K Q) : wpAnyN P md ops Q S n (fuel + 1) listed a w := by
 unfold oneB at hb
 simp only [Bool.and_eq_true, decide_eq_true_eq] at hb
 refine ⟨fun h0 => (by rw [hb.1] at h0; cases h0), fun j hj => ?_⟩
 rw [hb.1] at hj
 have : j = i := by simpa using hj
 subst this
 refine wpOp_step hi (fun K' hK => ?_)
 rw [if_pos hw]
 exact h K' (fun a' w' h1 h2 => hK a' w' ⟨fun _ => h1, h2 h1⟩)
theorem wpAnyN_of_seq : ∀ (l : List Oper) (k : Nat) (listed : Array Bool) (a : Act) (w : World), n ≤ k → k + l.length = ops.size → listed.size = ops.size → (∀ j, l[j]? = ops[k + j]?) →
  Region.seqB md ops l.length k listed = true → wpList P ops Q l a w → wpAnyN P md ops Q S n l.length listed a w
 | [], k, listed, a, w, _, _, _, hl, hB, h => ⟨by simpa [Region.seqB] using hB, h⟩
 | o :: l, k, listed, a, w, hnk, hkl, hls, hl, hB, h => by
  have h0 : ops[k]? = some o := by simpa using (hl 0).symm
  simp only [List.length_cons, Region.seqB, Bool.and_eq_true, decide_eq_true_eq] at hB
  refine ⟨fun h1 => (by rw [hB.1] at h1; cases h1), fun i hi => ?_⟩
  rw [hB.1] at hi
  have hik : i = k := by simpa using hi
  subst hik
  have hw : wpOp P ops Q i (wpList P ops Q l) a w := by unfold wpOp; simp only [h0]; exact h
  refine wpOp_mono (fun a' w' h' => ⟨fun hnt => ?_, wpAnyN_of_seq l (i + 1) _ a' w' (by omega) (by simp only [List.length_cons] at hkl; omega) (by simp [hls]) (fun j => by have := hl (j + 1); simpa [Nat.add_assoc, Nat.add_comm 1 j] using this) hB.2 h'⟩) hw
  have hlt : i < ops.size := by simp only [List.length_cons] at hkl; omega
  have h1 := List.all_eq_true.1 hnt i (List.mem_range.2 hlt)
  have : decide (i < n) = false := by simp; omega
  simp [this, hls, hlt] at h1
theorem wpAnyN_tail {l : List Oper} {g : Nat} {listed : Array Bool} {a : Act} {w : World} (hg : (l.drop n).length = g) (hn : n ≤ l.length) (hls : listed.size = l.toArray.size) (hB : Region.seqB md l.toArray g n listed = true)
  (h : wpList P l.toArray Q (l.drop n) a w) : wpAnyN P md l.toArray Q S n g listed a w := by
 subst hg
 exact wpAnyN_of_seq (l.drop n) n listed a w (Nat.le_refl _) (by simp; omega) hls (fun j => by simp [List.getElem?_drop]) hB h
theorem wp_region_N {id : Nat} {a : Act} {w : World} (S : World → Prop) (n : Nat) (hm : P.follows .mixedOrders = true)
  (h : wpAnyN P .any ops Q S n ops.size (Array.replicate ops.size false) a w.drew) : (Code.region id ops true).wp P Q a w :=
 wp_region_any hm (wpAny_of_N _ _ _ _ h)
end
end Go.Proofs.YtgglbholbkdgfaaGreatDoor
namespace Go.Proofs.YtgglbholbkdgfaaGreatDoor
open Go.RowKit
structure PSeg where
 first : Nat
 es : List (List UInt8)
def segBytes : Nat → List (List UInt8) → List UInt8
 | _, [] => []
 | n, e :: es => enc (uv n ++ e) ++ segBytes (n + 1) es
def segEnds : Nat → Nat → List (List UInt8) → List Nat
 | _, _, [] => []
 | n, at_, e :: es => (at_ + (enc (uv n ++ e)).length) :: segEnds (n + 1) (at_ + (enc (uv n ++ e)).length) es
def PSeg.next (p : PSeg) : Nat := p.first + p.es.length
def PSeg.bytes (p : PSeg) : List UInt8 := segBytes p.first p.es
def PSeg.ends (p : PSeg) : List Nat := segEnds p.first 0 p.es
theorem segEnds_length : ∀ (es : List (List UInt8)) (n a : Nat), (segEnds n a es).length = es.length
 | [], _, _ => rfl
 | e :: es, n, a => by simp [segEnds, segEnds_length es]
theorem segEnds_last : ∀ (es : List (List UInt8)) (n a : Nat), es ≠ [] → (segEnds n a es)[es.length - 1]? = some (a + (segBytes n es).length)
 | [], _, _, h => (h rfl).elim
 | [e], n, a, _ => by simp [segEnds, segBytes]
 | e :: e' :: es, n, a, _ => by
  have := segEnds_last (e' :: es) (n + 1) (a + (enc (uv n ++ e)).length) (by simp)
  simp only [List.length_cons] at this ⊢
  rw [segEnds]
  show ((_ :: _) : List Nat)[es.length + 1 + 1 - 1]? = _
  rw [show es.length + 1 + 1 - 1 = (es.length + 1 - 1) + 1 by omega, List.getElem?_cons_succ, this, segBytes.eq_2 n e (e' :: es), List.length_append, Nat.add_assoc]
theorem segBytes_append : ∀ (es fs : List (List UInt8)) (n : Nat), segBytes n (es ++ fs) = segBytes n es ++ segBytes (n + es.length) fs
 | [], fs, n => by simp [segBytes]
 | e :: es, fs, n => by
  simp only [List.cons_append, segBytes, segBytes_append es fs (n + 1), List.length_cons, List.append_assoc]
  rw [show n + 1 + es.length = n + (es.length + 1) by omega]
theorem segEnds_append : ∀ (es fs : List (List UInt8)) (n a : Nat), segEnds n a (es ++ fs) = segEnds n a es ++ segEnds (n + es.length) (a + (segBytes n es).length) fs
 | [], fs, n, a => by simp [segBytes, segEnds]
 | e :: es, fs, n, a => by
  simp only [List.cons_append, segBytes, segEnds, segEnds_append es fs (n + 1), List.length_cons, List.length_append, List.cons_append]
  rw [show n + 1 + es.length = n + (es.length + 1) by omega, Nat.add_assoc]
structure RSeg where
 sg : Nat
 p : PSeg
 ev : Value
 nv : Value
 xs : List Value
 dirty : Bool
def RSeg.ptr (r : RSeg) : Value := .pointer (some ⟨r.sg, 0, none⟩)
def natsV (l : List Nat) : List Value := l.map (fun n => .int .i64 (Int.ofNat n))
def RdU (w : World) (v : Value) (l : List UInt8) : Prop := RdB w v l ∧ ∀ g, v.ownBlock = some g → ∃ cs fr, w.heap[g]? = some (.cells cs 5 fr)
inductive Rows3 (w : World) (F : Nat → Prop) : List Value → List (List UInt8) → Prop
 | nil : Rows3 w F [] []
 | cons {x : Value} {e : List UInt8} {xs : List Value} {es : List (List UInt8)} : RdU w x e → (∀ g, x.ownBlock = some g → F g) → Rows3 w F xs es → Rows3 w F (x :: xs) (e :: es)
structure SegAt (w : World) (F : Nat → Prop) (r : RSeg) : Prop where
 blk : w.heap[r.sg]? = some (.cells #[.int .i64 r.p.first, r.ev, r.nv, .bool r.dirty] 139 (0, 0))
 self : F r.sg
 ents : Own w 35 1 r.ev r.xs
 entsF : ∀ g, r.ev.ownBlock = some g → F g
 ends : Own w 3 1 r.nv (natsV r.p.ends)
 endsF : ∀ g, r.nv.ownBlock = some g → F g
 rows : Rows3 w F r.xs r.p.es
def Apart3 (a b : RSeg) : Prop := a.sg ≠ b.sg ∧ (∀ g, a.ev.ownBlock = some g → b.ev.ownBlock ≠ some g) ∧ (∀ g, a.nv.ownBlock = some g → b.nv.ownBlock ≠ some g)
def Chain : Nat → List PSeg → Nat → Prop
 | n, [], m => n = m
 | n, p :: ps, m => p.first = n ∧ p.es ≠ [] ∧ Chain (n + p.es.length) ps m
structure LogAt (w : World) (L d : Nat) (F : Nat → Prop) (pre : ByteArray) (sv : Value) (rs : List RSeg) (m : Nat) : Prop where
 blk : w.heap[L]? = some (.cells #[.pointer (some ⟨d, 0, none⟩), .string pre, sv, .int .i64 m] 134 (0, 0))
 self : F L
 segs : Own w 140 1 sv (rs.map RSeg.ptr)
 segsF : ∀ g, sv.ownBlock = some g → F g
 each : ∀ r ∈ rs, SegAt w F r
 apart : rs.Pairwise Apart3
 chain : Chain 1 (rs.map (·.p)) m
 lt : ∀ b, F b → b < w.heap.size
 m100 : m ≤ 100
 bytes30 : ∀ r ∈ rs, r.p.bytes.length ≤ 1073741824
 preL : pre.size ≤ 55
theorem RdU.ext {w w' : World} {F G : Nat → Prop} {v : Value} {l : List UInt8} (h : RdU w v l) (x : Ext G w w') (hG : Off G v) : RdU w' v l :=
 ⟨Rd.ext h.1 x hG, fun g hg => by obtain ⟨cs, fr, hb⟩ := h.2 g hg; exact ⟨cs, fr, x.blk hb (hG g hg)⟩⟩
theorem Rows3.ext {w w' : World} {F G : Nat → Prop} {xs : List Value} {es : List (List UInt8)} (h : Rows3 w F xs es) (x : Ext G w w') (hG : ∀ g, F g → ∀ cs fr, w.heap[g]? = some (.cells cs 5 fr) → ¬ G g) : Rows3 w' F xs es := by
 induction h with
 | nil => exact .nil
 | cons h1 h2 h3 ih => exact .cons (RdU.ext (F := F) h1 x (fun g hg => by obtain ⟨cs, fr, hb⟩ := h1.2 g hg; exact hG g (h2 g hg) cs fr hb)) h2 ih
theorem Rows3.mono {w : World} {F F' : Nat → Prop} {xs : List Value} {es : List (List UInt8)} (h : Rows3 w F xs es) (hF : ∀ g, F g → F' g) : Rows3 w F' xs es := by
 induction h with
 | nil => exact .nil
 | cons h1 h2 h3 ih => exact .cons h1 (fun g hg => hF g (h2 g hg)) ih
theorem Rows3.length {w : World} {F : Nat → Prop} {xs : List Value} {es : List (List UInt8)} (h : Rows3 w F xs es) : xs.length = es.length := by
 induction h with
 | nil => rfl
 | cons _ _ _ ih => simp [ih]
theorem Rows3.append {w : World} {F : Nat → Prop} {xs ys : List Value} {es fs : List (List UInt8)} (h : Rows3 w F xs es) (h' : Rows3 w F ys fs) : Rows3 w F (xs ++ ys) (es ++ fs) := by
 induction h with
 | nil => exact h'
 | cons h1 h2 _ ih => exact .cons h1 h2 ih
theorem Rows3.get {w : World} {F : Nat → Prop} {xs : List Value} {es : List (List UInt8)} (h : Rows3 w F xs es) : ∀ (i : Nat) (e : List UInt8), es[i]? = some e → ∃ x, xs[i]? = some x ∧ RdU w x e ∧ ∀ g, x.ownBlock = some g → F g := by
 induction h with
 | nil => intro i e h; cases h
 | cons h1 h2 _ ih =>
  intro i e h
  cases i with
  | zero => simp at h; subst h; exact ⟨_, rfl, h1, h2⟩
  | succ i => simpa using ih i e (by simpa using h)
theorem SegAt.ext {w w' : World} {F G : Nat → Prop} {r : RSeg} (h : SegAt w F r) (x : Ext G w w') (hd : ∀ b, F b → ¬ G b) : SegAt w' F r :=
 ⟨x.blk h.blk (hd _ h.self), h.self, h.ents.ext x (fun g hg => hd g (h.entsF g hg)), h.entsF, h.ends.ext x (fun g hg => hd g (h.endsF g hg)), h.endsF, h.rows.ext x (fun g hg _ _ _ => hd g hg)⟩
theorem LogAt.ext {w w' : World} {L d : Nat} {F G : Nat → Prop} {pre : ByteArray} {sv : Value} {rs : List RSeg} {m : Nat} (h : LogAt w L d F pre sv rs m) (x : Ext G w w') (hd : ∀ b, F b → ¬ G b) : LogAt w' L d F pre sv rs m :=
 ⟨x.blk h.blk (hd _ h.self), h.self, h.segs.ext x (fun g hg => hd g (h.segsF g hg)), h.segsF, fun r hr => (h.each r hr).ext x hd, h.apart, h.chain, fun b hb => Nat.lt_of_lt_of_le (h.lt b hb) x.size, h.m100, h.bytes30, h.preL⟩
theorem LogAt.no {w w' : World} {L d : Nat} {F : Nat → Prop} {pre : ByteArray} {sv : Value} {rs : List RSeg} {m : Nat} (h : LogAt w L d F pre sv rs m) (x : Ext NoB w w') : LogAt w' L d F pre sv rs m := h.ext x (fun _ _ h => h)
theorem retInt {a b : Int} (h : a = b) : Ending.returned (.int .i64 a) = Ending.returned (.int .i64 b) := by rw [h]
theorem Chain.le : ∀ {n : Nat} {ps : List PSeg} {m : Nat}, Chain n ps m → n ≤ m ∧ ∀ p ∈ ps, n ≤ p.first ∧ p.next ≤ m
 | n, [], m, h => ⟨Nat.le_of_eq h, fun p hp => by cases hp⟩
 | n, p :: ps, m, h => by
  obtain ⟨h1, h2, h3⟩ := h
  obtain ⟨h4, h5⟩ := Chain.le h3
  refine ⟨by omega, fun q hq => ?_⟩
  rcases List.mem_cons.1 hq with rfl | hq
  ·unfold PSeg.next; omega
  ·have := h5 q hq; omega
set_option maxRecDepth 100000 in
set_option maxHeartbeats 400000 in
theorem next_any (F : Nat → Prop) (r : RSeg) (w : World) (h : SegAt w F r) (hb : r.p.next ≤ 100) :
  Calls Tryz.prog 101 #[r.ptr] w fun e w' => e = .returned (.int .i64 r.p.next) ∧ Ext NoB w w' := by
 obtain ⟨a, c, hv, hn, hc⟩ := Rd.shape h.ents.rd
 have hlen := h.rows.length
 have c0 : w.cell? ⟨r.sg, 0, none⟩ = some (.int .i64 r.p.first) := by rw [cell_of_blk h.blk]; rfl
 have c1 : w.cell? ⟨r.sg, 1, none⟩ = some r.ev := by rw [cell_of_blk h.blk]; rfl
 rw [hv, hlen] at c1
 unfold PSeg.next at hb ⊢
 have hw : IntKind.i64.wrap ((r.p.first : Int) + (r.p.es.length : Int)) = ((r.p.first + r.p.es.length : Nat) : Int) := by rw [IntWalk.i64_in _ (by omega)]; omega
 clear h hv
 unfold RSeg.ptr
 go_enter Tryz.func101, Tryz.ntmps101
 go_wp2_with fail
 go_quiet (fail)
 go_wp2_with fail
 go_ret
 exact ⟨retInt (by omega), (Ext.refl _ w).drewN _⟩
set_option maxRecDepth 100000 in
set_option maxHeartbeats 400000 in
theorem size_of (sg : Nat) (nv : Value) (p : PSeg) (w : World) (c2 : w.cell? ⟨sg, 2, none⟩ = some nv) (ho : Own w 3 1 nv (natsV p.ends)) :
  Calls Tryz.prog 117 #[.pointer (some ⟨sg, 0, none⟩)] w fun e w' => e = .returned (.int .i64 p.bytes.length) ∧ Ext NoB w w' := by
 obtain ⟨a, c, hv, hn, hc⟩ := Rd.shape ho.rd
 have hlen : (natsV p.ends).length = p.es.length := by simp [natsV, PSeg.ends, segEnds_length]
 rw [hlen] at hv hn
 by_cases he : p.es = []
 ·have e0 : p.es.length = 0 := by rw [he]; rfl
  rw [hv, e0] at c2
  have eb : p.bytes = [] := by unfold PSeg.bytes; rw [he]; rfl
  rw [eb]
  clear ho hv
  go_enter Tryz.func117, Tryz.ntmps117
  go_wp2_with fail
  go_ret
  exact ⟨rfl, Ext.refl _ w⟩
 ·have hpos : 0 < p.es.length := List.length_pos_iff.2 he
  have hl := segEnds_last p.es p.first 0 he
  obtain ⟨a', n', c', hv', _, _, _, _, hr⟩ := ho.rd
  rw [hv] at hv'; cases hv'
  have hne : natsV p.ends ≠ [] := by intro e; rw [e] at hlen; simp at hlen; omega
  obtain ⟨b, off, rfl, _⟩ := hr hne
  have hr : ∀ (j : Nat) (u : Value), (natsV p.ends)[j]? = some u → w.cell? ⟨b, off + j, none⟩ = some u := by
   obtain ⟨b', off', hbo, hr'⟩ := hr hne
   cases hbo
   exact hr'
  have ce : w.cell? ⟨b, off + (p.es.length - 1), none⟩ = some (.int .i64 p.bytes.length) := by
   refine hr _ _ ?_
   unfold natsV PSeg.ends
   rw [List.getElem?_map, hl]
   simp [PSeg.bytes]
  rw [hv] at c2
  have hw : IntKind.i64.wrap ((p.es.length : Int) - 1) = ((p.es.length - 1 : Nat) : Int) := by rw [IntWalk.i64_in _ (by unfold maxLen at hc; omega)]; omega
  have hz : ((p.es.length : Nat) : Int) ≠ 0 := by omega
  have hw0 : (0 : Int) ≤ ((p.es.length - 1 : Nat) : Int) := by omega
  have hw1 : ((p.es.length - 1 : Nat) : Int) < ((p.es.length : Nat) : Int) := by omega
  have hwn : (((p.es.length - 1 : Nat) : Int)).toNat = p.es.length - 1 := by omega
  clear ho hv hr hl hne
  go_enter Tryz.func117, Tryz.ntmps117
  go_wp2_with fail
  go_quiet (fail)
  go_wp2_with fail
  go_ret
  exact ⟨rfl, (Ext.refl _ w).drewN _⟩
theorem size_any (F : Nat → Prop) (r : RSeg) (w : World) (h : SegAt w F r) :
  Calls Tryz.prog 117 #[r.ptr] w fun e w' => e = .returned (.int .i64 r.p.bytes.length) ∧ Ext NoB w w' :=
 size_of r.sg r.nv r.p w (by rw [cell_of_blk h.blk]; rfl) h.ends
theorem own_apart {w : World} {e e' s s' : Nat} {v v' : Value} {xs xs' : List Value} (h : Own w e s v xs) (h' : Own w e' s' v' xs') (hne : e ≠ e') : Off (fun b => v.ownBlock = some b) v' := by
 intro g hg hb
 rcases h with ⟨rfl, _⟩ | ⟨g1, n, cap, cur, rfl, hb1, _⟩
 ·cases hb
 ·simp [Value.ownBlock] at hb
  subst hb
  exact h'.ne_blk hb1 hne g1 hg rfl
end Go.Proofs.YtgglbholbkdgfaaGreatDoor
namespace Go.Proofs.YtgglbholbkdgfaaGreatDoor
open Go.RowKit
set_option maxRecDepth 100000 in
set_option maxHeartbeats 400000 in
theorem last_none (L d : Nat) (F : Nat → Prop) (pre : ByteArray) (sv : Value) (m : Nat) (w : World) (h : LogAt w L d F pre sv [] m) :
  Calls Tryz.prog 116 #[.pointer (some ⟨L, 0, none⟩)] w fun e w' => e = .returned (.pointer none) ∧ Ext NoB w w' := by
 obtain ⟨a, c, rfl, hn, hc⟩ := Rd.shape h.segs.rd
 have c2 : w.cell? ⟨L, 2, none⟩ = some (.slice a 0 c) := by rw [cell_of_blk h.blk]; rfl
 clear h
 go_enter Tryz.func116, Tryz.ntmps116
 go_wp2_with fail
 go_ret
 exact ⟨rfl, Ext.refl _ w⟩
theorem LogAt.seg {w : World} {L d : Nat} {F : Nat → Prop} {pre : ByteArray} {sv : Value} {rs : List RSeg} {m : Nat} (h : LogAt w L d F pre sv rs m) (hne : rs ≠ []) :
  ∃ b off c, sv = .slice (some ⟨b, off, none⟩) rs.length c ∧ rs.length ≤ c ∧ c ≤ maxLen ∧ ∀ (i : Nat) (r : RSeg), rs[i]? = some r → w.cell? ⟨b, off + i, none⟩ = some r.ptr := by
 obtain ⟨a, n, c, hv, hl, hn, hc, _, hr⟩ := h.segs.rd
 have hne' : rs.map RSeg.ptr ≠ [] := by simpa using hne
 obtain ⟨b, off, rfl, hr2⟩ := hr hne'
 have hl' : n = rs.length := by simpa using hl.symm
 subst hl'
 exact ⟨b, off, c, hv, hn, hc, fun i r hi => hr2 i _ (by rw [List.getElem?_map, hi]; rfl)⟩
theorem Chain.count : ∀ {n : Nat} {ps : List PSeg} {m : Nat}, Chain n ps m → n + ps.length ≤ m
 | n, [], m, h => Nat.le_of_eq h
 | n, p :: ps, m, h => by
  obtain ⟨h1, h2, h3⟩ := h
  have := Chain.count h3
  have := List.length_pos_iff.2 h2
  simp only [List.length_cons]
  omega
set_option maxRecDepth 100000 in
set_option maxHeartbeats 400000 in
theorem last_some (L d : Nat) (F : Nat → Prop) (pre : ByteArray) (sv : Value) (rs : List RSeg) (m : Nat) (w : World) (h : LogAt w L d F pre sv rs m) (r : RSeg) (hr : rs[rs.length - 1]? = some r) :
  Calls Tryz.prog 116 #[.pointer (some ⟨L, 0, none⟩)] w fun e w' => e = .returned r.ptr ∧ Ext NoB w w' := by
 have hne : rs ≠ [] := by rintro rfl; cases hr
 have hpos := List.length_pos_iff.2 hne
 obtain ⟨b, off, c, rfl, hn, hc, hcell⟩ := h.seg hne
 have c2 : w.cell? ⟨L, 2, none⟩ = some (.slice (some ⟨b, off, none⟩) rs.length c) := by rw [cell_of_blk h.blk]; rfl
 have ce := hcell _ _ hr
 have hw : IntKind.i64.wrap ((rs.length : Int) - 1) = ((rs.length - 1 : Nat) : Int) := by rw [IntWalk.i64_in _ (by unfold maxLen at hc; omega)]; omega
 have hw0 : (0 : Int) ≤ ((rs.length - 1 : Nat) : Int) := by omega
 have hw1 : ((rs.length - 1 : Nat) : Int) < ((rs.length : Nat) : Int) := by omega
 have hwn : (((rs.length - 1 : Nat) : Int)).toNat = rs.length - 1 := by omega
 have hz : ((rs.length : Nat) : Int) ≠ 0 := by omega
 unfold RSeg.ptr at ce ⊢
 clear h hcell hr hne
 go_enter Tryz.func116, Tryz.ntmps116
 go_wp2_with fail
 go_quiet (fail)
 go_wp2_with fail
 go_ret
 exact ⟨rfl, (Ext.refl _ w).drewN _⟩
set_option maxRecDepth 100000 in
set_option maxHeartbeats 400000 in
theorem Bounds_any (L d : Nat) (F : Nat → Prop) (pre : ByteArray) (sv : Value) (rs : List RSeg) (m : Nat) (w : World) (h : LogAt w L d F pre sv rs m) :
  Calls Tryz.prog 39 #[.pointer (some ⟨L, 0, none⟩)] w fun e w' => e = .returned (.tuple #[.int .i64 1, .int .i64 m]) ∧ Ext NoB w w' := by
 have c3 : w.cell? ⟨L, 3, none⟩ = some (.int .i64 m) := by rw [cell_of_blk h.blk]; rfl
 cases rs with
 | nil =>
  obtain ⟨a, c, rfl, hn, hc⟩ := Rd.shape h.segs.rd
  have c2 : w.cell? ⟨L, 2, none⟩ = some (.slice a 0 c) := by rw [cell_of_blk h.blk]; rfl
  have hm : 1 = m := h.chain
  subst hm
  clear h
  go_enter Tryz.func39, Tryz.ntmps39
  go_wp2_with fail
  go_quiet (fail)
  go_wp2_with fail
  go_ret2
  exact ⟨rfl, (Ext.refl _ w).drewN _⟩
 | cons r rs =>
  obtain ⟨b, off, c, rfl, hn, hc, hcell⟩ := h.seg (by simp)
  have c2 : w.cell? ⟨L, 2, none⟩ = some (.slice (some ⟨b, off, none⟩) (rs.length + 1) c) := by rw [cell_of_blk h.blk]; rfl
  have ce : w.cell? ⟨b, off, none⟩ = some r.ptr := by simpa using hcell 0 r rfl
  have hs := (h.each r (by simp)).blk
  have c0 : w.cell? ⟨r.sg, 0, none⟩ = some (.int .i64 1) := by rw [cell_of_blk hs]; rw [h.chain.1]; rfl
  have hw1 : (0 : Int) < ((rs.length + 1 : Nat) : Int) := by omega
  have hz : ((rs.length + 1 : Nat) : Int) ≠ 0 := by omega
  have hz' : (rs.length : Int) + 1 ≠ 0 := by omega
  have hw1' : (0 : Int) < (rs.length : Int) + 1 := by omega
  unfold RSeg.ptr at ce
  clear h hcell hs
  go_enter Tryz.func39, Tryz.ntmps39
  go_wp2_with fail
  go_quiet (fail)
  go_wp2_with fail
  go_ret2
  exact ⟨rfl, (Ext.refl _ w).drewN _⟩
end Go.Proofs.YtgglbholbkdgfaaGreatDoor
namespace Go.Proofs.YtgglbholbkdgfaaGreatDoor
open Go.RowKit
def cmpV (a b : Int) : Int := if a < b then -1 else if b < a then 1 else 0
set_option maxRecDepth 100000 in
set_option maxHeartbeats 400000 in
theorem compare_any (a b : Int) (w : World) : Calls Tryz.prog 105 #[.int .i64 a, .int .i64 b] w fun e w' => e = .returned (.int .i64 (cmpV a b)) ∧ w' = w := by
 unfold cmpV
 by_cases h1 : a < b
 ·rw [if_pos h1]
  go_enter Tryz.func105, Tryz.ntmps105
  go_wp2_with fail
  refine (Tryz.cmp_isNaN_int2 a _).mono ?_; rintro e w1 ⟨rfl, rfl⟩
  go_wp2_with fail
  refine (Tryz.cmp_isNaN_int2 b _).mono ?_; rintro e w1 ⟨rfl, rfl⟩
  go_wp2_with fail
  go_ret
  exact ⟨rfl, rfl⟩
 ·rw [if_neg h1]
  by_cases h2 : b < a
  ·rw [if_pos h2]
   go_enter Tryz.func105, Tryz.ntmps105
   go_wp2_with fail
   refine (Tryz.cmp_isNaN_int2 a _).mono ?_; rintro e w1 ⟨rfl, rfl⟩
   go_wp2_with fail
   refine (Tryz.cmp_isNaN_int2 b _).mono ?_; rintro e w1 ⟨rfl, rfl⟩
   go_wp2_with fail
   go_ret
   exact ⟨rfl, rfl⟩
  ·rw [if_neg h2]
   go_enter Tryz.func105, Tryz.ntmps105
   go_wp2_with fail
   refine (Tryz.cmp_isNaN_int2 a _).mono ?_; rintro e w1 ⟨rfl, rfl⟩
   go_wp2_with fail
   refine (Tryz.cmp_isNaN_int2 b _).mono ?_; rintro e w1 ⟨rfl, rfl⟩
   go_wp2_with fail
   go_ret
   exact ⟨rfl, rfl⟩
set_option maxRecDepth 100000 in
set_option maxHeartbeats 400000 in
theorem cmpSeg_any (sg : Nat) (n : Int) (i : Int) (w : World) (h : w.cell? ⟨sg, 0, none⟩ = some (.int .i64 n)) :
  Calls Tryz.prog 104 #[.pointer (some ⟨sg, 0, none⟩), .int .i64 i] w fun e w' => e = .returned (.int .i64 (cmpV n i)) ∧ w = w' := by
 go_enter Tryz.func104, Tryz.ntmps104
 go_wp2_with fail
 refine (compare_any n i _).mono ?_; rintro e w1 ⟨rfl, rfl⟩
 go_wp2_with fail
 go_ret
 exact ⟨rfl, rfl⟩
def FindEnds (fs : List Nat) (i : Nat) (w : World) (e : Ending) (w' : World) : Prop :=
 ∃ k, k ≤ fs.length ∧ (∀ j f, j < k → fs[j]? = some f → f < i) ∧ (∀ j f, k ≤ j → fs[j]? = some f → i ≤ f) ∧ e = .returned (.tuple #[.int .i64 k, .bool (decide (fs[k]? = some i))]) ∧ Ext NoB w w'
set_option maxRecDepth 100000 in
set_option maxHeartbeats 400000 in
theorem find_any (b off n c : Nat) (sgs : List Nat) (fs : List Nat) (i : Nat) (w : World) (hn : fs.length = n) (hs : sgs.length = n) (hc : n ≤ 1000)
  (hp : ∀ (j g : Nat), sgs[j]? = some g → w.cell? ⟨b, off + j, none⟩ = some (.pointer (some ⟨g, 0, none⟩)))
  (hf : ∀ (j g f : Nat), sgs[j]? = some g → fs[j]? = some f → w.cell? ⟨g, 0, none⟩ = some (.int .i64 f))
  (hsort : ∀ (j k f g : Nat), j < k → fs[j]? = some f → fs[k]? = some g → f < g) (hi : i < 1000000) :
  Calls Tryz.prog 103 #[.slice (some ⟨b, off, none⟩) n c, .int .i64 i, .func (.func 104) #[] #[]] w (FindEnds fs i w) := by
 have Hp := Lib.hid hp
 have Hf := Lib.hid hf
 have Hs := Lib.hid hsort
 clear hp hf hsort
 go_enter Tryz.func103, Tryz.ntmps103
 go_wp2_with fail
 go_loop [9, 10] (fun lo hi => ∃ (l h : Nat), lo = .int .i64 l ∧ hi = .int .i64 h ∧ l ≤ h ∧ h ≤ n ∧ Hid (∀ j f, j < l → fs[j]? = some f → f < i) ∧ Hid (∀ j f, h ≤ j → fs[j]? = some f → i ≤ f)) (fun lo hi => (intOf hi).toNat - (intOf lo).toNat)
 case atStart => exact ⟨0, n, rfl, rfl, by omega, by omega, Lib.hid (fun j f h _ => absurd h (by omega)), Lib.hid (fun j f h e => by have := (List.getElem?_eq_some_iff.1 e).1; omega)⟩
 case round =>
  obtain ⟨l, h, rfl, rfl, hlh, hhn, H1, H2⟩ := hrel
  by_cases hlt : l < h
  ·obtain ⟨m, hm⟩ : ∃ m, (l + h) / 2 = m := ⟨_, rfl⟩
   have hm1 : l ≤ m := by omega
   have hm2 : m < h := by omega
   have hm3 : m < n := by omega
   obtain ⟨sg, hsg⟩ : ∃ sg, sgs[m]? = some sg := ⟨sgs[m]'(by omega), by simp⟩
   obtain ⟨f, hfm⟩ : ∃ f, fs[m]? = some f := ⟨fs[m]'(by omega), by simp⟩
   have k1 := Hp.out m sg hsg
   have k2 := Hf.out m sg f hsg hfm
   have HS := Lib.hid hsg
   have HF := Lib.hid hfm
   clear hsg hfm
   by_cases hfi : f < i
   ·have hcv : cmpV f i = -1 := by unfold cmpV; rw [if_pos (by omega)]
    go_wp2_with fail
    refine (cmpSeg_any sg f i w k2).mono ?_; rintro e w1 ⟨rfl, rfl⟩
    rw [hcv]
    go_wp2_with fail
    go_round
    case rel => exact ⟨m + 1, h, by go_num, rfl, by omega, by omega, Lib.hid (fun j g hj hg => by
     rcases Nat.lt_or_ge j m with hjm | hjm
     ·exact Nat.lt_trans (Hs.out j m g f hjm hg HF.out) hfi
     ·obtain rfl : j = m := by omega
      rw [HF.out] at hg; cases hg; exact hfi), H2⟩
    case measure => simp [intOf]; omega
   ·have hcv : 0 ≤ cmpV f i := by unfold cmpV; rw [if_neg (by omega)]; split <;> omega
    obtain ⟨cv, hcv'⟩ : ∃ cv, cmpV f i = cv := ⟨_, rfl⟩
    rw [hcv'] at hcv
    go_wp2_with fail
    refine (cmpSeg_any sg f i w k2).mono ?_; rintro e w1 ⟨rfl, rfl⟩
    rw [hcv']
    go_wp2_with fail
    go_round
    case rel => exact ⟨l, m, rfl, by go_num, by omega, by omega, H1, Lib.hid (fun j g hj hg => by
     rcases Nat.lt_or_ge m j with hjm | hjm
     ·exact Nat.le_trans (Nat.not_lt.1 hfi) (Nat.le_of_lt (Hs.out m j f g hjm HF.out hg))
     ·obtain rfl : j = m := by omega
      rw [HF.out] at hg; cases hg; exact Nat.not_lt.1 hfi)⟩
    case measure => simp [intOf]; omega
  ·obtain rfl : l = h := by omega
   by_cases hln : l < n
   ·obtain ⟨sg, hsg⟩ : ∃ sg, sgs[l]? = some sg := ⟨sgs[l]'(by omega), by simp⟩
    obtain ⟨f, hfm⟩ : ∃ f, fs[l]? = some f := ⟨fs[l]'(by omega), by simp⟩
    have k1 := Hp.out l sg hsg
    have k2 := Hf.out l sg f hsg hfm
    have HF := Lib.hid hfm
    have hge := H2.out l f (Nat.le_refl _) hfm
    obtain ⟨cv, hcv'⟩ : ∃ cv, cmpV f i = cv := ⟨_, rfl⟩
    have hcz : (cv = 0) ↔ f = i := by
     rw [← hcv']; unfold cmpV
     rw [if_neg (by omega)]
     split <;> omega
    have Hcz := Lib.hid hcz
    clear hsg hfm hcz
    go_wp2_with fail
    refine (cmpSeg_any sg f i w k2).mono ?_; rintro e w1 ⟨rfl, rfl⟩
    rw [hcv']
    go_wp2_with fail
    go_ret2
    refine ⟨l, by omega, H1.out, H2.out, ?_, Ext.refl _ _⟩
    rw [HF.out]
    have : (cv == 0) = decide (some f = some i) := by
     by_cases h : f = i
     ·simp [h, Hcz.out.2 h]
     ·have h' : cv ≠ 0 := fun e => h (Hcz.out.1 e)
      simp [h, h']
    rw [← this]
    rfl
   ·obtain rfl : l = n := by omega
    go_wp2_with fail
    go_ret2
    refine ⟨l, by omega, H1.out, H2.out, ?_, Ext.refl _ _⟩
    have : fs[l]? = none := by rw [List.getElem?_eq_none]; omega
    rw [this]
    rfl
theorem Chain.sorted : ∀ {n : Nat} {ps : List PSeg} {m : Nat}, Chain n ps m → ∀ (j k : Nat) (p q : PSeg), j < k → ps[j]? = some p → ps[k]? = some q → p.next ≤ q.first
 | n, [], m, h, j, k, p, q, _, hp, _ => by cases hp
 | n, a :: ps, m, h, j, k, p, q, hjk, hp, hq => by
  obtain ⟨h1, h2, h3⟩ := h
  obtain ⟨k, rfl⟩ : ∃ k', k = k' + 1 := ⟨k - 1, by omega⟩
  simp only [List.getElem?_cons_succ] at hq
  cases j with
  | zero =>
   simp at hp; subst hp
   have := (Chain.le h3).2 q (List.mem_of_getElem? hq)
   unfold PSeg.next; omega
  | succ j => exact Chain.sorted h3 j k p q (by omega) (by simpa using hp) hq
theorem Chain.pos : ∀ {n : Nat} {ps : List PSeg} {m : Nat}, Chain n ps m → ∀ p ∈ ps, p.first < p.next
 | n, [], m, h, p, hp => by cases hp
 | n, a :: ps, m, h, p, hp => by
  obtain ⟨h1, h2, h3⟩ := h
  rcases List.mem_cons.1 hp with rfl | hp
  ·have := List.length_pos_iff.2 h2; unfold PSeg.next; omega
  ·exact Chain.pos h3 p hp
set_option maxRecDepth 100000 in
set_option maxHeartbeats 400000 in
theorem of_seg (L d : Nat) (F : Nat → Prop) (pre : ByteArray) (sv : Value) (rs : List RSeg) (m : Nat) (w : World) (h : LogAt w L d F pre sv rs m) (i j : Nat) (r : RSeg) (hj : rs[j]? = some r) (hi1 : r.p.first ≤ i) (hi2 : i < r.p.next) :
  Calls Tryz.prog 75 #[.pointer (some ⟨L, 0, none⟩), .int .i64 i] w fun e w' => e = .returned r.ptr ∧ Ext NoB w w' := by
 have hne : rs ≠ [] := by rintro rfl; cases hj
 obtain ⟨b, off, c, rfl, hn, hc, hcell⟩ := h.seg hne
 have c2 : w.cell? ⟨L, 2, none⟩ = some (.slice (some ⟨b, off, none⟩) rs.length c) := by rw [cell_of_blk h.blk]; rfl
 have hcount := h.chain.count
 have hm := h.m100
 simp only [List.length_map] at hcount
 have hjl := (List.getElem?_eq_some_iff.1 hj).1
 have hnext : r.p.next ≤ m := ((h.chain.le).2 r.p (List.mem_map.2 ⟨r, List.mem_of_getElem? hj, rfl⟩)).2
 have hsort : ∀ (j k : Nat) (p q : RSeg), j < k → rs[j]? = some p → rs[k]? = some q → p.p.next ≤ q.p.first := fun j k p q hjk hp hq => h.chain.sorted j k p.p q.p hjk (by rw [List.getElem?_map, hp]; rfl) (by rw [List.getElem?_map, hq]; rfl)
 have hpos : ∀ p ∈ rs, p.p.first < p.p.next := fun p hp => h.chain.pos p.p (List.mem_map.2 ⟨p, hp, rfl⟩)
 have hfind := fun (w' : World) (x : Ext NoB w w') => find_any b off rs.length c (rs.map (·.sg)) (rs.map (·.p.first)) i w' (by simp) (by simp) (by omega)
  (fun j g hg => by
   rw [List.getElem?_map] at hg
   cases hr : rs[j]? with
   | none => rw [hr] at hg; cases hg
   | some r => rw [hr] at hg; cases hg; exact x.cell (hcell j r hr) (fun h => h))
  (fun j g f hg hf => by
   rw [List.getElem?_map] at hg hf
   cases hr : rs[j]? with
   | none => rw [hr] at hg; cases hg
   | some r =>
    rw [hr] at hg hf; cases hg; cases hf
    have hb := x.blk (h.each r (List.mem_of_getElem? hr)).blk (fun h => h)
    rw [cell_of_blk hb]; rfl)
  (fun j k f g hjk hf hg => by
   rw [List.getElem?_map] at hg hf
   cases hr : rs[j]? with
   | none => rw [hr] at hf; cases hf
   | some p =>
    cases hq : rs[k]? with
    | none => rw [hq] at hg; cases hg
    | some q =>
     rw [hr] at hf; rw [hq] at hg; cases hf; cases hg
     have := hsort j k p q hjk hr hq
     have := hpos p (List.mem_of_getElem? hr)
     show p.p.first < q.p.first
     omega) (by omega)
 have hseg := h.each r (List.mem_of_getElem? hj)
 have hnx := fun (w' : World) (x : Ext NoB w w') => next_any F r w' (hseg.ext x (fun _ _ h => h)) (by omega)
 have Hfind := Lib.hid hfind
 have Hnx := Lib.hid hnx
 have Hsort := Lib.hid hsort
 have Hpos := Lib.hid hpos
 have Hj := Lib.hid hj
 have cj := hcell j r hj
 unfold RSeg.ptr at cj hnx ⊢
 clear h hcell hfind hnx hsort hpos hj hseg
 go_enter Tryz.func75, Tryz.ntmps75
 go_wp2_with fail
 refine (Hfind.out w (Ext.refl _ _)).mono ?_
 rintro e w1 ⟨k, hk, hlo, hhi, rfl, x1⟩
 simp only [List.length_map] at hk
 have hc2 := x1.cell c2 (fun h => h)
 have hcj := x1.cell cj (fun h => h)
 have hget : ∀ k (q : RSeg), rs[k]? = some q → (rs.map (·.p.first))[k]? = some q.p.first := fun k q hq => by rw [List.getElem?_map, hq]; rfl
 have hfj := hget j r Hj.out
 by_cases hfound : (rs.map (·.p.first))[k]? = some i
 ·have hkj : k = j := by
   obtain ⟨q, hq⟩ : ∃ q, rs[k]? = some q := by
    cases hq : rs[k]? with
    | none => rw [List.getElem?_map, hq] at hfound; cases hfound
    | some q => exact ⟨q, rfl⟩
   have hfk := hget k q hq
   rw [hfound] at hfk
   have hfk' : q.p.first = i := by simpa using hfk.symm
   rcases Nat.lt_trichotomy k j with hlt | he | hgt
   ·have := Hsort.out k j q r hlt hq Hj.out
    have := Hpos.out q (List.mem_of_getElem? hq)
    omega
   ·exact he
   ·have := Hsort.out j k r q hgt Hj.out hq
    omega
  subst hkj
  rw [decide_eq_true hfound]
  clear hlo hhi hget hfj hfound c2 cj
  have hr0 : (0 : Int) ≤ (k : Int) := by omega
  have hr1 : (k : Int) < (rs.length : Int) := by omega
  have hr2 : ((k : Int)).toNat = k := by omega
  have hr3 : ¬ ((r.p.next : Int) ≤ (i : Int)) := by omega
  go_wp2_with fail
  refine (Hnx.out w1 x1).mono ?_; rintro e w2 ⟨rfl, x2⟩
  have hc2 := x2.cell hc2 (fun h => h)
  have hcj := x2.cell hcj (fun h => h)
  go_wp2_with fail
  go_ret
  exact ⟨rfl, x1.trans x2⟩
 ·have hkj : k = j + 1 := by
   have h1 : j < k := by
    rcases Nat.lt_or_ge j k with h | h
    ·exact h
    ·have h2 := hhi j _ h hfj
     have h3 : r.p.first = i := by omega
     rcases Nat.eq_or_lt_of_le h with he | hlt
     ·subst he; rw [h3] at hfj; exact (hfound hfj).elim
     ·obtain ⟨q, hq⟩ : ∃ q, rs[k]? = some q := ⟨rs[k]'(by omega), by simp⟩
      have h4 := hhi k _ (Nat.le_refl _) (hget k q hq)
      have h5 := Hsort.out k j q r hlt hq Hj.out
      have h6 := Hpos.out q (List.mem_of_getElem? hq)
      omega
   rcases Nat.lt_or_ge (j + 1) k with h | h
   ·obtain ⟨q, hq⟩ : ∃ q, rs[k - 1]? = some q := ⟨rs[k - 1]'(by omega), by simp⟩
    have h4 := hlo (k - 1) _ (by omega) (hget (k - 1) q hq)
    have h5 := Hsort.out j (k - 1) r q (by omega) Hj.out hq
    omega
   ·omega
  subst hkj
  rw [decide_eq_false hfound]
  clear hlo hhi hget hfj hfound c2 cj
  have hw : IntKind.i64.wrap (((j + 1 : Nat) : Int) - 1) = (j : Int) := by rw [IntWalk.i64_in _ (by omega)]; omega
  have hr0 : (0 : Int) ≤ (j : Int) := by omega
  have hr1 : (j : Int) < (rs.length : Int) := by omega
  have hr2 : ((j : Int)).toNat = j := by omega
  have hr3 : ¬ ((r.p.next : Int) ≤ (i : Int)) := by omega
  go_wp2_with fail
  refine (Hnx.out w1 x1).mono ?_; rintro e w2 ⟨rfl, x2⟩
  have hc2 := x2.cell hc2 (fun h => h)
  have hcj := x2.cell hcj (fun h => h)
  go_wp2_with fail
  go_ret
  exact ⟨rfl, x1.trans x2⟩
set_option maxRecDepth 100000 in
set_option maxHeartbeats 400000 in
theorem Get_seg (L d : Nat) (F : Nat → Prop) (pre : ByteArray) (sv : Value) (rs : List RSeg) (m : Nat) (w : World) (h : LogAt w L d F pre sv rs m) (i j : Nat) (r : RSeg) (hj : rs[j]? = some r) (hi1 : r.p.first ≤ i) (hi2 : i < r.p.next)
  (l : List UInt8) (hl : r.p.es[i - r.p.first]? = some l) (hll : l.length < 1099511627776) :
  Calls Tryz.prog 40 #[.pointer (some ⟨L, 0, none⟩), .int .i64 i] w fun e w' => ∃ v, e = .returned (.tuple #[v, .int .i64 0]) ∧ Own w' 5 1 v (bytesV l) ∧ Fresh w v ∧ Ext NoB w w' := by
 have hof := Lib.hid (of_seg L d F pre sv rs m w h i j r hj hi1 hi2)
 have hm := h.m100
 have hnext : r.p.next ≤ m := ((h.chain.le).2 r.p (List.mem_map.2 ⟨r, List.mem_of_getElem? hj, rfl⟩)).2
 have hs := h.each r (List.mem_of_getElem? hj)
 obtain ⟨x, hx1, hx2, _⟩ := hs.rows.get _ _ hl
 obtain ⟨a, n, c, hv, hln, hn, hc, _, hr⟩ := hs.ents.rd
 have hlen : n = r.p.es.length := by have := hs.rows.length; omega
 subst hlen
 have hxne : r.xs ≠ [] := by intro e; rw [e] at hx1; cases hx1
 obtain ⟨b, off, rfl, hr2⟩ := hr hxne
 have k1 := fun (w' : World) (y : Ext NoB w w') => y.cell (hr2 _ _ hx1) (fun h => h)
 have k2 : ∀ (w' : World), Ext NoB w w' → w'.cell? ⟨r.sg, 1, none⟩ = some (.slice (some ⟨b, off, none⟩) r.p.es.length c) := fun w' y => y.cell (by rw [cell_of_blk hs.blk, ← hv]; rfl) (fun h => h)
 have k3 : ∀ (w' : World), Ext NoB w w' → w'.cell? ⟨r.sg, 0, none⟩ = some (.int .i64 r.p.first) := fun w' y => y.cell (by rw [cell_of_blk hs.blk]; rfl) (fun h => h)
 obtain ⟨a', c', rfl, hn', hcm'⟩ := RdB.shape hx2.1
 have hcl := fun (w' : World) (y : Ext NoB w w') => bytesClone_any _ l w' (Rd.no hx2.1 y) (by omega)
 unfold PSeg.next at hi2 hnext
 obtain ⟨q, hq⟩ : ∃ q, i - r.p.first = q := ⟨_, rfl⟩
 rw [hq] at k1
 have hw : IntKind.i64.wrap ((i : Int) - (r.p.first : Int)) = (q : Int) := by rw [IntWalk.i64_in _ (by omega)]; omega
 have hr0 : (0 : Int) ≤ (q : Int) := by omega
 have hr1 : (q : Int) < (r.p.es.length : Int) := by omega
 have hrn : ((q : Int)).toNat = q := by omega
 have hcl' := Lib.hid hcl
 have K1 := Lib.hid k1
 have K2 := Lib.hid k2
 have K3 := Lib.hid k3
 clear h hs hx1 hx2 hv hr hr2 hxne hcl k1 k2 k3 hj hl hi1 hi2 hq hnext hm hln
 unfold RSeg.ptr at hof
 go_enter Tryz.func40, Tryz.ntmps40
 go_wp2_with fail
 refine hof.out.mono ?_; rintro e w1 ⟨rfl, x1⟩
 have k1 := K1.out w1 x1
 have k2 := K2.out w1 x1
 have k3 := K3.out w1 x1
 go_wp2_with fail
 go_still_tail 12, (by kernel_rfl)
 change wpList _ _ _ _ _ w1.drew
 go_wp2_with fail
 refine (hcl'.out w1.drew x1.drew).mono ?_; rintro e w2 ⟨v2, rfl, o2, f2, x2⟩
 go_wp2_with fail
 go_ret2
 exact ⟨v2, rfl, o2, f2.mono x1.size, (x1.drew).trans x2⟩
end Go.Proofs.YtgglbholbkdgfaaGreatDoor
namespace Go.Proofs.YtgglbholbkdgfaaGreatDoor
open Go.RowKit
theorem SegAt.ext2 {w w' : World} {F F' G : Nat → Prop} {r : RSeg} (h : SegAt w F r) (x : Ext G w w') (h1 : ¬ G r.sg) (h2 : Off G r.ev) (h3 : Off G r.nv) (h4 : ∀ g, F g → ∀ cs fr, w.heap[g]? = some (.cells cs 5 fr) → ¬ G g) (hF : ∀ b, F b → F' b) : SegAt w' F' r :=
 ⟨x.blk h.blk h1, hF _ h.self, h.ents.ext x h2, fun g hg => hF g (h.entsF g hg), h.ends.ext x h3, fun g hg => hF g (h.endsF g hg), (h.rows.ext x h4).mono hF⟩
theorem Chain.snoc : ∀ {n : Nat} {ps : List PSeg} {p : PSeg} {m : Nat} {l : List UInt8}, Chain n (ps ++ [p]) m → Chain n (ps ++ [⟨p.first, p.es ++ [l]⟩]) (m + 1)
 | n, [], p, m, l, h => by
  obtain ⟨h1, h2, h3⟩ := h
  refine ⟨h1, by simp, ?_⟩
  show n + (p.es ++ [l]).length = m + 1
  have h3 : n + p.es.length = m := h3
  simp only [List.length_append, List.length_singleton]
  omega
 | n, q :: ps, p, m, l, h => by
  obtain ⟨h1, h2, h3⟩ := h
  exact ⟨h1, h2, Chain.snoc h3⟩
theorem Chain.fresh : ∀ {n : Nat} {ps : List PSeg} {m : Nat} {l : List UInt8}, Chain n ps m → Chain n (ps ++ [⟨m, [l]⟩]) (m + 1)
 | n, [], m, l, h => by
  have h : n = m := h
  subst h
  exact ⟨rfl, by simp, rfl⟩
 | n, q :: ps, m, l, h => by
  obtain ⟨h1, h2, h3⟩ := h
  exact ⟨h1, h2, Chain.fresh h3⟩
theorem blk_cells_inj {w : World} {b : Nat} {cs cs' : Array Value} {t t' : TypeId} {fr fr' : Nat × Nat} (h : w.heap[b]? = some (.cells cs t fr)) (h' : w.heap[b]? = some (.cells cs' t' fr')) : t = t' := by
 rw [h] at h'
 injection h' with h1
 injection h1
theorem LogAt.more {w w' : World} {L d : Nat} {F : Nat → Prop} {pre : ByteArray} {sv : Value} {ini : List RSeg} {r : RSeg} {m : Nat} (h : LogAt w L d F pre sv (ini ++ [r]) m) {v ev' nv' : Value} {l : List UInt8}
  (x : Ext (fun b => r.ev.ownBlock = some b ∨ r.nv.ownBlock = some b ∨ b = r.sg ∨ b = L) w w')
  (hbL : w'.heap[L]? = some (.cells #[.pointer (some ⟨d, 0, none⟩), .string pre, sv, .int .i64 (m + 1 : Nat)] 134 (0, 0)))
  (hbS : w'.heap[r.sg]? = some (.cells #[.int .i64 r.p.first, ev', nv', .bool true] 139 (0, 0)))
  (hev : Own w' 35 1 ev' (r.xs ++ [v])) (hnv : Own w' 3 1 nv' (natsV (PSeg.ends ⟨r.p.first, r.p.es ++ [l]⟩)))
  (hv : RdU w' v l) (hvb : ∀ g, v.ownBlock = some g → w.heap.size ≤ g)
  (hevb : ∀ g, ev'.ownBlock = some g → r.ev.ownBlock = some g ∨ w.heap.size ≤ g) (hnvb : ∀ g, nv'.ownBlock = some g → r.nv.ownBlock = some g ∨ w.heap.size ≤ g)
  (hm : m < 100) (hb : (PSeg.bytes ⟨r.p.first, r.p.es ++ [l]⟩).length ≤ 1073741824) :
  LogAt w' L d (Gr F w w') pre sv (ini ++ [⟨r.sg, ⟨r.p.first, r.p.es ++ [l]⟩, ev', nv', r.xs ++ [v], true⟩]) (m + 1) := by
 have hr := h.each r (by simp)
 have hF : ∀ b, F b → Gr F w w' b := fun b hb => .inl hb
 have hnew : ∀ g, w.heap.size ≤ g → g < w'.heap.size → Gr F w w' g := fun g h1 h2 => .inr ⟨h1, h2⟩
 have hap := h.apart
 rw [List.pairwise_append] at hap
 obtain ⟨ap1, _, ap2⟩ := hap
 have hu : ∀ g, F g → ∀ cs fr, w.heap[g]? = some (.cells cs 5 fr) → ¬ (r.ev.ownBlock = some g ∨ r.nv.ownBlock = some g ∨ g = r.sg ∨ g = L) := by
  intro g _ cs fr hg hG
  rcases hG with hG | hG | rfl | rfl
  ·exact hr.ents.ne_blk hg (by decide) g hG rfl
  ·exact hr.ends.ne_blk hg (by decide) g hG rfl
  ·exact absurd (blk_cells_inj hg hr.blk) (by decide)
  ·exact absurd (blk_cells_inj hg h.blk) (by decide)
 refine ⟨hbL, .inl h.self, ?_, fun g hg => .inl (h.segsF g hg), ?_, ?_, ?_, ?_, by omega, ?_, h.preL⟩
 ·have := h.segs.ext x (fun g hg hG => by
   rcases hG with hG | hG | hG | hG
   ·exact own_apart hr.ents h.segs (by decide) g hg hG
   ·exact own_apart hr.ends h.segs (by decide) g hg hG
   ·exact h.segs.ne_blk hr.blk (by decide) g hg hG.symm
   ·exact h.segs.ne_blk h.blk (by decide) g hg hG.symm)
  simp only [List.map_append, List.map_cons, List.map_nil, RSeg.ptr] at this ⊢
  exact this
 ·intro q hq
  rcases List.mem_append.1 hq with hq | hq
  ·have hqs := h.each q (by simp [hq])
   obtain ⟨a1, a2, a3⟩ := ap2 q hq r (by simp)
   refine hqs.ext2 x ?_ ?_ ?_ hu hF
   ·rintro (hG | hG | hG | hG)
    ·exact hr.ents.ne_blk hqs.blk (by decide) _ hG rfl
    ·exact hr.ends.ne_blk hqs.blk (by decide) _ hG rfl
    ·exact a1 hG
    ·exact absurd (blk_cells_inj (hG ▸ hqs.blk) h.blk) (by decide)
   ·intro g hg hG
    rcases hG with hG | hG | hG | hG
    ·exact a2 g hg hG
    ·exact own_apart hr.ends hqs.ents (by decide) g hg hG
    ·exact hqs.ents.ne_blk hr.blk (by decide) g hg hG.symm
    ·exact hqs.ents.ne_blk h.blk (by decide) g hg hG.symm
   ·intro g hg hG
    rcases hG with hG | hG | hG | hG
    ·exact own_apart hr.ents hqs.ends (by decide) g hg hG
    ·exact a3 g hg hG
    ·exact hqs.ends.ne_blk hr.blk (by decide) g hg hG.symm
    ·exact hqs.ends.ne_blk h.blk (by decide) g hg hG.symm
  ·have : q = ⟨r.sg, ⟨r.p.first, r.p.es ++ [l]⟩, ev', nv', r.xs ++ [v], true⟩ := by simpa using hq
   subst this
   refine ⟨hbS, .inl hr.self, hev, ?_, hnv, ?_, ?_⟩
   ·intro g hg
    rcases hevb g hg with h1 | h1
    ·exact .inl (hr.entsF g h1)
    ·exact hnew g h1 (hev.lt g hg)
   ·intro g hg
    rcases hnvb g hg with h1 | h1
    ·exact .inl (hr.endsF g h1)
    ·exact hnew g h1 (hnv.lt g hg)
   ·refine Rows3.append ((hr.rows.ext x hu).mono hF) (.cons hv (fun g hg => hnew g (hvb g hg) ?_) .nil)
    obtain ⟨cs, fr, hb⟩ := hv.2 g hg
    exact lt_of_blk hb
 ·rw [List.pairwise_append]
  refine ⟨ap1, by simp, fun a ha b hb => ?_⟩
  have : b = ⟨r.sg, ⟨r.p.first, r.p.es ++ [l]⟩, ev', nv', r.xs ++ [v], true⟩ := by simpa using hb
  subst this
  obtain ⟨a1, a2, a3⟩ := ap2 a ha r (by simp)
  have has := h.each a (by simp [ha])
  refine ⟨a1, fun g hg hg' => ?_, fun g hg hg' => ?_⟩
  ·rcases hevb g hg' with h1 | h1
   ·exact a2 g hg h1
   ·have := has.ents.lt g hg; omega
  ·rcases hnvb g hg' with h1 | h1
   ·exact a3 g hg h1
   ·have := has.ends.lt g hg; omega
 ·have := h.chain
  simp only [List.map_append, List.map_cons, List.map_nil] at this ⊢
  exact this.snoc
 ·intro b hb
  rcases hb with hb | hb
  ·exact Nat.lt_of_lt_of_le (h.lt b hb) x.size
  ·exact hb.2
 ·intro q hq
  rcases List.mem_append.1 hq with hq | hq
  ·exact h.bytes30 q (by simp [hq])
  ·have : q = ⟨r.sg, ⟨r.p.first, r.p.es ++ [l]⟩, ev', nv', r.xs ++ [v], true⟩ := by simpa using hq
   subst this
   exact hb
theorem LogAt.added {w w' : World} {L d sg : Nat} {F : Nat → Prop} {pre : ByteArray} {sv : Value} {rs : List RSeg} {m : Nat} (h : LogAt w L d F pre sv rs m) {v ev' nv' sv' : Value} {l : List UInt8}
  (x : Ext (fun b => sv.ownBlock = some b ∨ b = sg ∨ b = L) w w') (hsgF : ¬ F sg) (hsgw : sg < w.heap.size)
  (hbL : w'.heap[L]? = some (.cells #[.pointer (some ⟨d, 0, none⟩), .string pre, sv', .int .i64 (m + 1 : Nat)] 134 (0, 0)))
  (hsv : Own w' 140 1 sv' (rs.map RSeg.ptr ++ [.pointer (some ⟨sg, 0, none⟩)])) (hsvb : ∀ g, sv'.ownBlock = some g → sv.ownBlock = some g ∨ w.heap.size ≤ g)
  (hbS : w'.heap[sg]? = some (.cells #[.int .i64 m, ev', nv', .bool true] 139 (0, 0)))
  (hev : Own w' 35 1 ev' [v]) (hnv : Own w' 3 1 nv' (natsV (PSeg.ends ⟨m, [l]⟩)))
  (hv : RdU w' v l) (hvb : ∀ g, v.ownBlock = some g → w.heap.size ≤ g)
  (hevb : ∀ g, ev'.ownBlock = some g → w.heap.size ≤ g) (hnvb : ∀ g, nv'.ownBlock = some g → w.heap.size ≤ g)
  (hm : m < 100) (hb : (PSeg.bytes ⟨m, [l]⟩).length ≤ 1073741824) :
  LogAt w' L d (fun b => Gr F w w' b ∨ b = sg) pre sv' (rs ++ [⟨sg, ⟨m, [l]⟩, ev', nv', [v], true⟩]) (m + 1) := by
 have hF : ∀ b, F b → Gr F w w' b ∨ b = sg := fun b hb => .inl (.inl hb)
 have hnew : ∀ g, w.heap.size ≤ g → g < w'.heap.size → Gr F w w' g ∨ g = sg := fun g h1 h2 => .inl (.inr ⟨h1, h2⟩)
 have hu : ∀ g, F g → ∀ cs fr, w.heap[g]? = some (.cells cs 5 fr) → ¬ (sv.ownBlock = some g ∨ g = sg ∨ g = L) := by
  intro g hgF cs fr hg hG
  rcases hG with hG | hG | hG
  ·exact h.segs.ne_blk hg (by decide) g hG rfl
  ·exact hsgF (hG ▸ hgF)
  ·exact absurd (blk_cells_inj hg (hG ▸ h.blk)) (by decide)
 refine ⟨hbL, .inl (.inl h.self), ?_, ?_, ?_, ?_, ?_, ?_, by omega, ?_, h.preL⟩
 ·simp only [List.map_append, List.map_cons, List.map_nil, RSeg.ptr] at hsv ⊢
  exact hsv
 ·intro g hg
  rcases hsvb g hg with h1 | h1
  ·exact hF g (h.segsF g h1)
  ·exact hnew g h1 (hsv.lt g hg)
 ·intro q hq
  rcases List.mem_append.1 hq with hq | hq
  ·have hqs := h.each q hq
   refine hqs.ext2 x ?_ ?_ ?_ hu hF
   ·rintro (hG | hG | hG)
    ·exact h.segs.ne_blk hqs.blk (by decide) _ hG rfl
    ·exact hsgF (hG ▸ hqs.self)
    ·exact absurd (blk_cells_inj (hG ▸ hqs.blk) h.blk) (by decide)
   ·intro g hg hG
    rcases hG with hG | hG | hG
    ·exact own_apart h.segs hqs.ents (by decide) g hg hG
    ·exact hsgF (hG ▸ hqs.entsF g hg)
    ·exact hqs.ents.ne_blk h.blk (by decide) g hg hG.symm
   ·intro g hg hG
    rcases hG with hG | hG | hG
    ·exact own_apart h.segs hqs.ends (by decide) g hg hG
    ·exact hsgF (hG ▸ hqs.endsF g hg)
    ·exact hqs.ends.ne_blk h.blk (by decide) g hg hG.symm
  ·have : q = ⟨sg, ⟨m, [l]⟩, ev', nv', [v], true⟩ := by simpa using hq
   subst this
   refine ⟨hbS, .inr rfl, hev, fun g hg => hnew g (hevb g hg) (hev.lt g hg), hnv, fun g hg => hnew g (hnvb g hg) (hnv.lt g hg), .cons hv (fun g hg => hnew g (hvb g hg) ?_) .nil⟩
   obtain ⟨cs, fr, hb⟩ := hv.2 g hg
   exact lt_of_blk hb
 ·rw [List.pairwise_append]
  refine ⟨h.apart, by simp, fun a ha b hb => ?_⟩
  have : b = ⟨sg, ⟨m, [l]⟩, ev', nv', [v], true⟩ := by simpa using hb
  subst this
  have has := h.each a ha
  refine ⟨fun e => hsgF ((show a.sg = sg from e) ▸ has.self), fun g hg hg' => ?_, fun g hg hg' => ?_⟩
  ·have := has.ents.lt g hg; have := hevb g hg'; omega
  ·have := has.ends.lt g hg; have := hnvb g hg'; omega
 ·have := h.chain
  simp only [List.map_append, List.map_cons, List.map_nil] at this ⊢
  exact this.fresh
 ·intro b hb
  have := x.size
  rcases hb with (hb | hb) | hb
  ·exact Nat.lt_of_lt_of_le (h.lt b hb) x.size
  ·exact hb.2
  ·omega
 ·intro q hq
  rcases List.mem_append.1 hq with hq | hq
  ·exact h.bytes30 q hq
  ·have : q = ⟨sg, ⟨m, [l]⟩, ev', nv', [v], true⟩ := by simpa using hq
   subst this
   exact hb
end Go.Proofs.YtgglbholbkdgfaaGreatDoor
namespace Go.Proofs.YtgglbholbkdgfaaGreatDoor
open Go.RowKit
theorem RdU.of_own {w : World} {v : Value} {l : List UInt8} (h : Own w 5 1 v (bytesV l)) : RdU w v l := by
 refine ⟨h.rd, fun g hg => ?_⟩
 rcases h with ⟨rfl, _⟩ | ⟨g', n, cap, cur, rfl, hb, _⟩
 ·cases hg
 ·simp [Value.ownBlock] at hg; subst hg; exact ⟨_, _, hb⟩
theorem Chain.last_next : ∀ {n : Nat} {ps : List PSeg} {p : PSeg} {m : Nat}, Chain n (ps ++ [p]) m → p.next = m
 | n, [], p, m, h => by
  obtain ⟨h1, h2, h3⟩ := h
  have h3 : n + p.es.length = m := h3
  unfold PSeg.next; omega
 | n, q :: ps, p, m, h => Chain.last_next h.2.2
theorem PSeg.ends_snoc (p : PSeg) (l : List UInt8) : PSeg.ends ⟨p.first, p.es ++ [l]⟩ = p.ends ++ [p.bytes.length + (enc (uv p.next ++ l)).length] := by
 unfold PSeg.ends PSeg.bytes PSeg.next
 simp only [segEnds_append, segEnds, Nat.zero_add]
theorem ret2i {a b c e : Int} (h : a = b) (h' : c = e) : Ending.returned (.tuple #[.int .i64 a, .int .i64 c]) = Ending.returned (.tuple #[.int .i64 b, .int .i64 e]) := by rw [h, h']
theorem wrap64_in (n : Nat) (h : n < 9223372036854775808) : wrap64 (n : Int) = n := by unfold wrap64; omega
theorem unBB : Tryz.prog.underlying 44 = some (.slice 35) := Tryz.underlying44
theorem unInts' : Tryz.prog.underlying 34 = some (.slice 3) := Tryz.underlying34
theorem uvF_length : ∀ (k n : Nat), (uvF k n).length ≤ k := by
 intro k
 induction k with
 | zero => intro n; simp [uvF]
 | succ k ih => intro n; rw [uvF]; split <;> simp <;> have := ih (n / 128) <;> omega
theorem uv_length (n : Nat) : (uv n).length ≤ 10 := uvF_length 10 n
theorem isNm_seg (pre : ByteArray) (n : Nat) (hp : pre.size ≤ 55) (hn : n < 100) : isNm (segName pre n) = true := by
 have hd := digits_small n hn
 have hrl : (⟨(Lib.repeatL zeroS.data.toList (8 - (Lib.decDigits n).length)).toArray⟩ : ByteArray).size = 8 - (Lib.decDigits n).length := by
  show (List.toArray _).size = _
  rw [List.size_toArray, Lib.repeatL_length]
  have : zeroS.data.toList.length = 1 := rfl
  rw [this]; omega
 have hdl : (⟨(Lib.decDigits n).toArray⟩ : ByteArray).size = (Lib.decDigits n).length := by
  show (List.toArray _).size = _
  rw [List.size_toArray]
 have hdot : dot.size = 1 := rfl
 unfold isNm segName
 rw [ByteArray.size_append, ByteArray.size_append, ByteArray.size_append, hrl, hdl, hdot]
 simp only [decide_eq_true_eq]
 omega
structure Store (w : World) (L d : Nat) (FD FL : Nat → Prop) (pre : ByteArray) (D : PDisk) (ps : List PSeg) (m : Nat) (dl : Bool) : Prop where
 disk : DiskIs w d FD D
 log : ∃ sv rs, LogAt w L d FL pre sv rs m ∧ rs.map (·.p) = ps ∧ (dl = true → ∃ ini r, rs = ini ++ [r] ∧ r.dirty = true)
 apart : ∀ b, FD b → ¬ FL b
def StoreEnds (w : World) (L d : Nat) (FD FL : Nat → Prop) (pre : ByteArray) (D : PDisk) (ps : List PSeg) (m : Nat) (dl : Bool) (w' : World) : Prop :=
 Ext (fun b => FD b ∨ FL b) w w' ∧ ∃ FD' FL', (∀ b, FD' b → Gr FD w w' b) ∧ (∀ b, FL' b → Gr FL w w' b) ∧ Store w' L d FD' FL' pre D ps m dl
set_option maxRecDepth 100000 in
set_option maxHeartbeats 8000000 in
theorem LogAppend_more (L d : Nat) (FD FL : Nat → Prop) (D : PDisk) (pre : ByteArray) (sv : Value) (ini : List RSeg) (r : RSeg) (m : Nat) (p : Value) (l : List UInt8) (w : World)
  (hL : LogAt w L d FL pre sv (ini ++ [r]) m) (hd : DiskIs w d FD D) (hdis : ∀ b, FD b → ¬ FL b) (hp : RdB w p l) (hpo : Off FD p) (hpo2 : Off FL p) (hl : l.length ≤ 1048566) (hm : m < 100) (hsz : r.p.bytes.length < 1024)
  (hfit : (enc (uv m ++ l)).length + usedL D.files ≤ D.room) (hcnt : D.files.length < 256) (hb30 : (PSeg.bytes ⟨r.p.first, r.p.es ++ [l]⟩).length ≤ 1073741824) :
  Calls Tryz.prog 90 #[.pointer (some ⟨L, 0, none⟩), p] w fun e w' => e = .returned (.tuple #[.int .i64 m, .int .i64 0]) ∧
   StoreEnds w L d FD FL pre ⟨D.room, fsPut D.files (segName pre r.p.first) (fApp (fsGet D.files (segName pre r.p.first)) (enc (uv m ++ l)))⟩ (ini.map (·.p) ++ [⟨r.p.first, r.p.es ++ [l]⟩]) (m + 1) true w' := by
 have hseg := hL.each r (by simp)
 have hlast := fun (w' : World) (x : Ext NoB w w') => last_some L d FL pre sv (ini ++ [r]) m w' (hL.no x) r (by simp)
 have hsize := fun (w' : World) (x : Ext NoB w w') => size_any FL r w' (hseg.ext x (fun _ _ h => h))
 have c3 : w.cell? ⟨L, 3, none⟩ = some (.int .i64 m) := by rw [cell_of_blk hL.blk]; rfl
 have hw1 : IntKind.u64.wrap (m : Int) = (m : Int) := by rw [IntKind.wrap_u64]; omega
 obtain ⟨ap, cp, rfl, hpn, hpc⟩ := hp.shape
 have hul := uv_length m
 have HL := Lib.hid hL
 have HD := Lib.hid hd
 have HS := Lib.hid hseg
 have Hlast := Lib.hid hlast
 have Hsize := Lib.hid hsize
 have Hdis := Lib.hid hdis
 have HP := Lib.hid hp
 have HPO := Lib.hid hpo
 have HPO2 := Lib.hid hpo2
 have HU := Lib.hid (fun w' => Uvarint_any m (Lib.hid (by unfold U64; omega)) w')
 have hq1 : ¬ ((1048566 : Int) < (l.length : Int)) := by omega
 have hq2 : ¬ ((99999999 : Int) ≤ (m : Int)) := by omega
 have HM := Lib.hid hm
 have Hl := Lib.hid hl
 have Hsz := Lib.hid hsz
 have Hul := Lib.hid hul
 have Hpn := Lib.hid hpn
 have Hpc := Lib.hid hpc
 have Hfit := Lib.hid hfit
 have Hcnt := Lib.hid hcnt
 have Hb30 := Lib.hid hb30
 clear hL hd hseg hlast hsize hdis hp hpo hpo2 hm hl hsz hul hpn hpc hfit hcnt hb30
 go_enter Tryz.func90, Tryz.ntmps90
 go_wp2_with fail
 refine (HU.out w).mono ?_; rintro e w1 ⟨s1, rfl, o1, f1, x1⟩
 obtain ⟨a1, k1, rfl, hn1, hk1⟩ := RdB.shape (l := uv m) o1.rd
 have hp1 := Rd.no HP.out x1
 have hb1 : ((bytesV (uv m)).length + (bytesV l).length) * 1 ≤ 140737488355328 := by have := Hul.out; have := Hl.out; simp only [bytesV_length]; omega
 have Hb1 := Lib.hid hb1
 clear hb1
 go_wp2_with (at_builtin; refine wpList_app _ rfl (.tmp 30) (.tmp 31) 35 35 rfl 5 1 1 unBytes elByte o1 (Rd.src unBytes hp1 (bytesV_one _) (by decide)) rfl rfl Hb1.out (by decide) ?_; intro v2 w2 o2 x2 h2; refine halt2 (fun _K HK => ?_))
 have y2 : Ext NoB w w2 := f1.ext x1 x2
 rw [← bytesV_append] at o2
 obtain ⟨ul, hul⟩ : ∃ ul, uv m ++ l = ul := ⟨_, rfl⟩
 have hulen : ul.length ≤ 1048576 := by rw [← hul]; have := Hul.out; have := Hl.out; simp only [List.length_append]; omega
 rw [hul] at o2
 obtain ⟨a2, k2, rfl, hn2, hk2⟩ := RdB.shape (l := ul) o2.rd
 have Henc := Lib.hid (Encode_any _ ul w2 o2.rd hulen)
 have Hful := Lib.hid hul
 have Hulen := Lib.hid hulen
 clear hulen hul
 clear o2 x2 h2 hn2 hk2 x1 o1 f1 hn1 hk1 hp1
 refine HK.out ?_; clear HK _K
 go_wp2_with fail
 refine Henc.out.mono ?_; rintro e w3 ⟨v3, rfl, o3, f3, x3⟩
 obtain ⟨fr, hfr⟩ : ∃ fr, enc ul = fr := ⟨_, rfl⟩
 rw [hfr] at o3
 obtain ⟨a3, k3, rfl, hn3, hk3⟩ := RdB.shape (l := fr) o3.rd
 have y3 := y2.trans x3
 have HO3 := Lib.hid o3
 have HF3 := Lib.hid f3
 have Hn3 := Lib.hid hn3
 have Hfr := Lib.hid hfr
 have Hfl := Lib.hid (show fr.length ≤ 1048584 by rw [← hfr, enc_length]; have := Hulen.out; omega)
 have Hy2 := Lib.hid y2
 clear o3 f3 hn3 hk3 x3 y2 hfr Henc c3
 go_wp2_with fail
 refine (Hlast.out w3 y3).mono ?_; rintro e w4 ⟨rfl, x4⟩
 have y4 := y3.trans x4
 have HO4 := Lib.hid (HO3.out.no x4)
 clear HO3 y3 x4
 unfold RSeg.ptr at Hsize ⊢
 obtain ⟨z, hz⟩ : ∃ z, r.p.bytes.length = z := ⟨_, rfl⟩
 have hsz' : ¬ ((1024 : Int) ≤ (z : Int)) := by have := Hsz.out; omega
 rw [hz] at Hsize
 have Hz := Lib.hid hz
 clear hz hq1 hq2 hw1
 go_wp2_with fail
 refine (Hsize.out w4 y4).mono ?_; rintro e w5 ⟨rfl, x5⟩
 have y5 := y4.trans x5
 have HO5 := Lib.hid (HO4.out.no x5)
 clear HO4 y4 x5
 go_wp2_with fail
 have hL := HL.out
 have hseg := HS.out
 have hfn : r.p.first < 100 := by
  have h1 := ((hL.chain.le).2 r.p (by simp)).2
  have h2 := hL.chain.pos r.p (by simp)
  have := HM.out
  omega
 have bL := y5.blk hL.blk (fun h => h)
 have bS := y5.blk hseg.blk (fun h => h)
 have c0 : w5.cell? ⟨L, 0, none⟩ = some (.pointer (some ⟨d, 0, none⟩)) := by rw [cell_of_blk bL]; rfl
 have c1 : ∀ w', Ext NoB w5 w' → w'.cell? ⟨L, 1, none⟩ = some (.string pre) := fun w' x => x.cell (by rw [cell_of_blk bL]; rfl) (fun h => h)
 have cs : w5.cell? ⟨r.sg, 0, none⟩ = some (.int .i64 r.p.first) := by rw [cell_of_blk bS]; rfl
 have hname := Lib.hid (fun (w' : World) (x : Ext NoB w5 w') => name_any L pre r.p.first w' hfn (by have := hL.preL; omega) (c1 w' x))
 have happ := Lib.hid (fun (w' : World) (x : Ext NoB w5 w') => Append_ok d FD D (segName pre r.p.first) _ fr w' ((HD.out.no y5).no x) ((HO5.out.no x).rd) (HF3.out.off (fun b hb => Nat.lt_of_lt_of_le (HD.out.lt b hb) Hy2.out.size)) (isNm_seg pre _ hL.preL hfn) (by rw [← Hfr.out, ← Hful.out]; exact Hfit.out) Hcnt.out)
 have hnL : ¬ FD L := fun h => Hdis.out L h hL.self
 have hnS : ¬ FD r.sg := fun h => Hdis.out r.sg h hseg.self
 have HBL := Lib.hid bL
 have HBS := Lib.hid bS
 have Hfn := Lib.hid hfn
 have hxl : r.xs.length ≤ 100 := by
  have h1 := ((hL.chain.le).2 r.p (by simp)).2
  have h2 := hseg.rows.length
  have := HM.out
  unfold PSeg.next at h1
  omega
 have Hxl := Lib.hid hxl
 have HnL := Lib.hid hnL
 have HnS := Lib.hid hnS
 clear hL hseg bL bS c1 hfn hnL hnS hxl
 go_region_held3 (fun w' => w'.cell? ⟨L, 0, none⟩ = some (.pointer (some ⟨d, 0, none⟩)) ∧ w'.cell? ⟨r.sg, 0, none⟩ = some (.int .i64 r.p.first))
  (first | exact ⟨c0, cs⟩ | assumption)
  (first
   | (go_at_call 100; refine (hname.out _ (Ext.refl NoB _).drew).mono ?_; rintro e w6 ⟨rfl, x6⟩; have y6 : Ext NoB w5 w6 := (Ext.refl NoB w5).drew.trans x6; have z6 := And.intro (y6.cell c0 (fun h => h)) (y6.cell cs (fun h => h)))
   | (go_at_call 110; refine (happ.out w6 y6).mono ?_; rintro e w7 ⟨rfl, x7, d7⟩; have z7 := And.intro (x7.cell z6.1 HnL.out) (x7.cell z6.2 HnS.out)))
 go_wp2_with fail
 have x27 : Ext FD w w7 := (y5.trans y6).of_no.trans x7
 have hL7 := HL.out.ext x27 (fun b hb h => Hdis.out b h hb)
 have hS7 := HS.out.ext x27 (fun b hb h => Hdis.out b h hb)
 have hp7 := Rd.ext HP.out x27 HPO.out
 obtain ⟨ea, ec, hev, hen, hec⟩ := Rd.shape hS7.ents.rd
 obtain ⟨na, nc, hnv, hnn, hnc⟩ := Rd.shape hS7.ends.rd
 have b7 := hS7.blk
 rw [hev, hnv] at b7
 have c1 : w7.cell? ⟨r.sg, 1, none⟩ = some (.slice ea r.xs.length ec) := by rw [cell_of_blk b7]; rfl
 have c2 : w7.cell? ⟨r.sg, 2, none⟩ = some (.slice na (natsV r.p.ends).length nc) := by rw [cell_of_blk b7]; rfl
 refine wp_region_N (fun w' => w'.cell? ⟨r.sg, 1, none⟩ = some (.slice ea r.xs.length ec) ∧ w'.cell? ⟨r.sg, 2, none⟩ = some (.slice na (natsV r.p.ends).length nc)) 22 (by kernel_rfl) ?_
 have hSd : w7.drew.cell? ⟨r.sg, 1, none⟩ = some (.slice ea r.xs.length ec) ∧ w7.drew.cell? ⟨r.sg, 2, none⟩ = some (.slice na (natsV r.p.ends).length nc) := ⟨c1, c2⟩
 refine wpAnyN_free 0 (v := ?_) (by kernel_rfl) rfl (fun _ _ _ h => h) hSd (by rfl) ?_ ?_; rotate_left; (focus (intro w; go_simp; try with_reducible rfl)); (try simp only [Act.put]); (try simp only [List.setIfInBounds_toArray, List.set_cons_zero, List.set_cons_succ])
 refine wpAnyN_free 1 (v := ?_) (by kernel_rfl) rfl (fun _ _ _ h => h) hSd (by rfl) ?_ ?_; rotate_left; (focus (intro w; go_simp; try with_reducible rfl)); (try simp only [Act.put]); (try simp only [List.setIfInBounds_toArray, List.set_cons_zero, List.set_cons_succ])
 refine wpAnyN_free 2 (v := ?_) (by kernel_rfl) rfl (fun _ _ _ h => h) hSd (by rfl) ?_ ?_; rotate_left; (focus (intro w; go_simp; try with_reducible rfl)); (try simp only [Act.put]); (try simp only [List.setIfInBounds_toArray, List.set_cons_zero, List.set_cons_succ])
 refine wpAnyN_free 3 (v := ?_) (by kernel_rfl) rfl (fun _ _ _ h => h) hSd (by rfl) ?_ ?_; rotate_left; (focus (intro w; go_simp; try with_reducible rfl)); (try simp only [Act.put]); (try simp only [List.setIfInBounds_toArray, List.set_cons_zero, List.set_cons_succ])
 refine wpAnyN_free 4 (v := ?_) (by kernel_rfl) rfl (fun _ _ _ h => h) hSd (by rfl) ?_ ?_; rotate_left; (focus (intro w; go_simp; try with_reducible rfl)); (try simp only [Act.put]); (try simp only [List.setIfInBounds_toArray, List.set_cons_zero, List.set_cons_succ])
 refine wpAnyN_free 5 (v := ?_) (by kernel_rfl) rfl (fun _ _ _ h => h) hSd (by rfl) ?_ ?_; rotate_left; (focus (intro w; go_simp; try with_reducible rfl)); (try simp only [Act.put]); (try simp only [List.setIfInBounds_toArray, List.set_cons_zero, List.set_cons_succ])
 refine wpAnyN_take 6 (v := ?_) (by kernel_rfl) rfl (fun _ _ _ h => h) hSd (by rfl) ?_ ?_; rotate_left; (focus (intro w hSw; (try dsimp only at hSw); go_simp; try with_reducible rfl)); (try simp only [Act.put]); (try simp only [List.setIfInBounds_toArray, List.set_cons_zero, List.set_cons_succ])
 refine wpAnyN_free 7 (v := ?_) (by kernel_rfl) rfl (fun _ _ _ h => h) hSd (by rfl) ?_ ?_; rotate_left; (focus (intro w; go_simp; try with_reducible rfl)); (try simp only [Act.put]); (try simp only [List.setIfInBounds_toArray, List.set_cons_zero, List.set_cons_succ])
 refine wpAnyN_free 11 (v := ?_) (by kernel_rfl) rfl (fun _ _ _ h => h) hSd (by rfl) ?_ ?_; rotate_left; (focus (intro w; go_simp; try with_reducible rfl)); (try simp only [Act.put]); (try simp only [List.setIfInBounds_toArray, List.set_cons_zero, List.set_cons_succ])
 refine wpAnyN_free 12 (v := ?_) (by kernel_rfl) rfl (fun _ _ _ h => h) hSd (by rfl) ?_ ?_; rotate_left; (focus (intro w; go_simp; try with_reducible rfl)); (try simp only [Act.put]); (try simp only [List.setIfInBounds_toArray, List.set_cons_zero, List.set_cons_succ])
 refine wpAnyN_free 13 (v := ?_) (by kernel_rfl) rfl (fun _ _ _ h => h) hSd (by rfl) ?_ ?_; rotate_left; (focus (intro w; go_simp; try with_reducible rfl)); (try simp only [Act.put]); (try simp only [List.setIfInBounds_toArray, List.set_cons_zero, List.set_cons_succ])
 refine wpAnyN_take 14 (v := ?_) (by kernel_rfl) rfl (fun _ _ _ h => h) hSd (by rfl) ?_ ?_; rotate_left; (focus (intro w hSw; (try dsimp only at hSw); go_simp; try with_reducible rfl)); (try simp only [Act.put]); (try simp only [List.setIfInBounds_toArray, List.set_cons_zero, List.set_cons_succ])
 refine wpAnyN_free 15 (v := ?_) (by kernel_rfl) rfl (fun _ _ _ h => h) hSd (by rfl) ?_ ?_; rotate_left; (focus (intro w; go_simp; try with_reducible rfl)); (try simp only [Act.put]); (try simp only [List.setIfInBounds_toArray, List.set_cons_zero, List.set_cons_succ])
 refine wpAnyN_free 17 (v := ?_) (by kernel_rfl) rfl (fun _ _ _ h => h) hSd (by rfl) ?_ ?_; rotate_left; (focus (intro w; go_simp; try with_reducible rfl)); (try simp only [Act.put]); (try simp only [List.setIfInBounds_toArray, List.set_cons_zero, List.set_cons_succ])
 refine wpAnyN_free 18 (v := ?_) (by kernel_rfl) rfl (fun _ _ _ h => h) hSd (by rfl) ?_ ?_; rotate_left; (focus (intro w; go_simp; try with_reducible rfl)); (try simp only [Act.put]); (try simp only [List.setIfInBounds_toArray, List.set_cons_zero, List.set_cons_succ])
 refine wpAnyN_one 8 (by kernel_rfl) (by simp only [List.getElem?_toArray, List.getElem?_cons_succ, List.getElem?_cons_zero] <;> rfl) (by rfl) (fun K hK => ?_)
 go_simp
 have hp7d : RdB w7.drew (.slice ap l.length cp) l := hp7
 refine (bytesClone_any _ l w7.drew hp7d (by have := Hl.out; omega)).mono ?_; rintro e w8 ⟨v8, rfl, o8, f8, x8⟩
 obtain ⟨a8, k8, rfl, hn8, hk8⟩ := RdB.shape (l := l) o8.rd
 have y8 : Ext NoB w7 w8 := (Ext.refl NoB w7).drew.trans x8
 go_wp2_with fail
 refine hK.out _ _ ⟨y8.cell c1 (fun h => h), y8.cell c2 (fun h => h)⟩ (fun hSd => ?_)
 clear hK K
 (try simp only [Act.put]); (try simp only [List.setIfInBounds_toArray, List.set_cons_zero, List.set_cons_succ])
 refine wpAnyN_one 9 (by kernel_rfl) (by simp only [List.getElem?_toArray, List.getElem?_cons_succ, List.getElem?_cons_zero] <;> rfl) (by rfl) (fun K hK => ?_)
 go_simp
 obtain ⟨w9, B9, e1, e2, x9, b9, hs9⟩ := alloc_facts w8 (.cells #[.slice a8 l.length k8] 35)
 rw [e1, e2]
 have y9 := y8.trans x9
 refine hK.out _ _ ⟨y9.cell c1 (fun h => h), y9.cell c2 (fun h => h)⟩ (fun hSd => ?_)
 clear hK K e1 hSd
 have hSd := And.intro (y9.cell c1 (fun h => h)) (y9.cell c2 (fun h => h))
 (try simp only [Act.put]); (try simp only [List.setIfInBounds_toArray, List.set_cons_zero, List.set_cons_succ])
 refine wpAnyN_one 10 (by kernel_rfl) (by simp only [List.getElem?_toArray, List.getElem?_cons_succ, List.getElem?_cons_zero] <;> rfl) (by rfl) (fun K hK => ?_)
 have oev : Own w9 35 1 (.slice ea r.xs.length ec) r.xs := by rw [← hev]; exact hS7.ents.no y9
 refine wp_app _ (.tmp 87) (.tmp 90) 44 44 rfl 35 1 24 unBB elBytes _ oev 1 _ (Src.one unBB B9 _ _ _ b9 rfl) (by have := Hxl.out; simp; omega) (by decide) ?_
 intro v10 w10 o10 x10 h10
 obtain ⟨ea2, ec2, rfl, hen2, hec2⟩ := Rd.shape o10.rd
 have Ho10 := Lib.hid o10
 have Hh10 := Lib.hid h10
 have Hx10 := Lib.hid x10
 have Ho8 := Lib.hid o8
 have Hf8 := Lib.hid f8
 have hevF : Off (fun b => b = r.sg) (.slice ea r.xs.length ec) := fun g hg h => oev.ne_blk (y9.blk b7 (fun h => h)) (by decide) g hg h.symm
 have x7a : Ext (fun k => (Value.slice ea r.xs.length ec).ownBlock = some k) w7 w10 := (y9.of_no).trans x10
 have c1a := x7a.cell c1 (fun h => hevF _ h rfl)
 have c2a := x7a.cell c2 (fun h => hevF _ h rfl)
 refine hK.out _ _ ⟨c1a, c2a⟩ (fun hSd => ?_)
 clear hK K hSd
 have hSd := And.intro c1a c2a
 (try simp only [Act.put]); (try simp only [List.setIfInBounds_toArray, List.set_cons_zero, List.set_cons_succ])
 have onv0 : Own w7 3 1 (.slice na (natsV r.p.ends).length nc) (natsV r.p.ends) := by rw [← hnv]; exact hS7.ends
 have onv10 : Own w10 3 1 (.slice na (natsV r.p.ends).length nc) (natsV r.p.ends) := (onv0.no y9).ext x10 (own_apart oev (onv0.no y9) (by decide))
 refine wpAnyN_one 16 (by kernel_rfl) (by simp only [List.getElem?_toArray, List.getElem?_cons_succ, List.getElem?_cons_zero] <;> rfl) (by rfl) (fun K hK => ?_)
 go_simp
 refine (size_of r.sg _ r.p w10 c2a onv10).mono ?_; rintro e w11 ⟨rfl, x11⟩
 rw [Hz.out]
 have hadd : IntKind.i64.wrap ((z : Int) + (fr.length : Int)) = (z : Int) + (fr.length : Int) := IntWalk.i64_in _ (by have := Hsz.out; have := Hz.out; have := Hfl.out; omega)
 go_wp2_with fail
 refine hK.out _ _ ⟨x11.cell c1a (fun h => h), x11.cell c2a (fun h => h)⟩ (fun hSd => ?_)
 clear hK K hSd
 have hSd := And.intro (x11.cell c1a (fun h => h)) (x11.cell c2a (fun h => h))
 (try simp only [Act.put]); (try simp only [List.setIfInBounds_toArray, List.set_cons_zero, List.set_cons_succ])
 refine wpAnyN_free 19 (v := ?_) (by kernel_rfl) rfl (fun _ _ _ h => h) hSd (by rfl) ?_ ?_; rotate_left; (focus (intro w; go_simp; try with_reducible rfl)); (try simp only [Act.put]); (try simp only [List.setIfInBounds_toArray, List.set_cons_zero, List.set_cons_succ])
 refine wpAnyN_one 20 (by kernel_rfl) (by simp only [List.getElem?_toArray, List.getElem?_cons_succ, List.getElem?_cons_zero] <;> rfl) (by rfl) (fun K hK => ?_)
 go_simp
 obtain ⟨w12, B12, e1, e2, x12, b12, hs12⟩ := alloc_facts w11 (.cells #[.int .i64 ((z : Int) + (fr.length : Int))] 3)
 rw [e1, e2]
 have y12 : Ext NoB w10 w12 := x11.trans x12
 refine hK.out _ _ ⟨y12.cell c1a (fun h => h), y12.cell c2a (fun h => h)⟩ (fun hSd => ?_)
 clear hK K e1 hSd
 have hSd := And.intro (y12.cell c1a (fun h => h)) (y12.cell c2a (fun h => h))
 (try simp only [Act.put]); (try simp only [List.setIfInBounds_toArray, List.set_cons_zero, List.set_cons_succ])
 refine wpAnyN_one 21 (by kernel_rfl) (by simp only [List.getElem?_toArray, List.getElem?_cons_succ, List.getElem?_cons_zero] <;> rfl) (by rfl) (fun K hK => ?_)
 have onv12 := onv10.no y12
 refine wp_app _ (.tmp 95) (.tmp 101) 34 34 rfl 3 1 8 unInts' elInt _ onv12 1 _ (Src.one unInts' B12 _ _ _ b12 rfl) (by have := Hxl.out; have := hS7.rows.length; simp only [natsV, PSeg.ends, List.length_map, segEnds_length, List.length_singleton]; omega) (by decide) ?_
 intro v13 w13 o13 x13 h13
 obtain ⟨na2, nc2, rfl, hnn2, hnc2⟩ := Rd.shape o13.rd
 have Ho13 := Lib.hid o13
 have Hh13 := Lib.hid h13
 have hnvF : Off (fun b => b = r.sg) (.slice na (natsV r.p.ends).length nc) := fun g hg h => onv0.ne_blk b7 (by decide) g hg h.symm
 have x10d : Ext (fun k => (Value.slice na (natsV r.p.ends).length nc).ownBlock = some k) w10 w13 := (y12.of_no).trans x13
 have c1b := x10d.cell c1a (fun h => hnvF _ h rfl)
 have c2b := x10d.cell c2a (fun h => hnvF _ h rfl)
 refine hK.out _ _ ⟨c1b, c2b⟩ (fun hSd => ?_)
 clear hK K hSd
 (try simp only [Act.put]); (try simp only [List.setIfInBounds_toArray, List.set_cons_zero, List.set_cons_succ])
 refine wpAnyN_tail (by rfl) (by decide) (by kernel_rfl) (by kernel_rfl) ?_
 simp only [List.drop_succ_cons, List.drop_zero]
 have x713 : Ext (fun k => (Value.slice ea r.xs.length ec).ownBlock = some k ∨ (Value.slice na (natsV r.p.ends).length nc).ownBlock = some k) w7 w13 := (x7a.mono (fun _ _ h => .inl h)).trans' x10d (fun _ _ h => h) (fun _ _ h => .inr h)
 have b13 := x713.blk b7 (fun h => h.elim (fun h => hevF _ h rfl) (fun h => hnvF _ h rfl))
 have f1 : w13.frozen? ⟨r.sg, 1, none⟩ = false := frozen_of_blk b13 1
 have f2 : w13.frozen? ⟨r.sg, 2, none⟩ = false := frozen_of_blk b13 2
 have f3 : w13.frozen? ⟨r.sg, 3, none⟩ = false := frozen_of_blk b13 3
 have c3b : w13.cell? ⟨r.sg, 3, none⟩ = some (.bool r.dirty) := by rw [cell_of_blk b13]; rfl
 have bL7 := hL7.blk
 have hLs : L ≠ r.sg := by
  intro e
  rw [e, b7] at bL7
  injection bL7 with h1
  injection h1 with h2 h3
  exact absurd h3 (by decide)
 have hsL : r.sg ≠ L := Ne.symm hLs
 have hevL : Off (fun b => b = L) (.slice ea r.xs.length ec) := fun g hg h => oev.ne_blk (y9.blk bL7 (fun h => h)) (by decide) g hg h.symm
 have hnvL : Off (fun b => b = L) (.slice na (natsV r.p.ends).length nc) := fun g hg h => onv0.ne_blk bL7 (by decide) g hg h.symm
 have bL13 := x713.blk bL7 (fun h => h.elim (fun h => hevL _ h rfl) (fun h => hnvL _ h rfl))
 have cL3 : w13.cell? ⟨L, 3, none⟩ = some (.int .i64 m) := by rw [cell_of_blk bL13]; rfl
 have fL3 : w13.frozen? ⟨L, 3, none⟩ = false := frozen_of_blk bL13 3
 have hwm : IntKind.i64.wrap ((m : Int) + 1) = (m : Int) + 1 := IntWalk.i64_in _ (by have := HM.out; omega)
 have hwm2 : IntKind.i64.wrap ((m : Int) + 1 - 1) = (m : Int) := by rw [IntWalk.i64_in _ (by have := HM.out; omega)]; omega
 have Hb7 := Lib.hid b7
 have HbL7 := Lib.hid bL7
 have HL7 := Lib.hid hL7
 clear b7 bL7 hL7
 go_wp2_with fail
 go_ret2
 refine ⟨ret2i (wrap64_in m (by have := HM.out; omega)) rfl, ?_⟩
 have b7 := Hb7.out
 have bL7 := HbL7.out
 have hL7 := HL7.out
 have xS : Ext (fun b => b = r.sg ∨ b = L) w13 ((((w13.setCell ⟨r.sg, 1, none⟩ (.slice ea2 (r.xs ++ [Value.slice a8 l.length k8]).length ec2)).setCell ⟨r.sg, 2, none⟩ (.slice na2 (natsV r.p.ends ++ [Value.int .i64 ((z : Int) + (fr.length : Int))]).length nc2)).setCell ⟨r.sg, 3, none⟩ (.bool true)).setCell ⟨L, 3, none⟩ (.int .i64 ((m : Int) + 1))) :=
  ((((Ext.refl (fun b => b = r.sg ∨ b = L) w13).setCell (p := ⟨r.sg, 1, none⟩) (.inl (.inl rfl)) _).setCell (p := ⟨r.sg, 2, none⟩) (.inl (.inl rfl)) _).setCell (p := ⟨r.sg, 3, none⟩) (.inl (.inl rfl)) _).setCell (p := ⟨L, 3, none⟩) (.inl (.inr rfl)) _
 have k4 := blk_setCell_ne (blk_setCell (blk_setCell (blk_setCell b13 1 (.slice ea2 (r.xs ++ [Value.slice a8 l.length k8]).length ec2)) 2 (.slice na2 (natsV r.p.ends ++ [Value.int .i64 ((z : Int) + (fr.length : Int))]).length nc2)) 3 (.bool true)) (p := ⟨L, 3, none⟩) hsL (.int .i64 ((m : Int) + 1))
 have kL := blk_setCell (blk_setCell_ne (blk_setCell_ne (blk_setCell_ne bL13 (p := ⟨r.sg, 1, none⟩) hLs (.slice ea2 (r.xs ++ [Value.slice a8 l.length k8]).length ec2)) (p := ⟨r.sg, 2, none⟩) hLs (.slice na2 (natsV r.p.ends ++ [Value.int .i64 ((z : Int) + (fr.length : Int))]).length nc2)) (p := ⟨r.sg, 3, none⟩) hLs (.bool true)) 3 (.int .i64 ((m : Int) + 1))
 have elen1 : (r.xs ++ [Value.slice a8 l.length k8]).length = r.xs.length + 1 := by simp
 have elen2 : (natsV r.p.ends ++ [Value.int .i64 ((z : Int) + (fr.length : Int))]).length = (natsV r.p.ends).length + 1 := by simp
 rw [← elen1, ← elen2]
 generalize ((((w13.setCell ⟨r.sg, 1, none⟩ (.slice ea2 (r.xs ++ [Value.slice a8 l.length k8]).length ec2)).setCell ⟨r.sg, 2, none⟩ (.slice na2 (natsV r.p.ends ++ [Value.int .i64 ((z : Int) + (fr.length : Int))]).length nc2)).setCell ⟨r.sg, 3, none⟩ (.bool true)).setCell ⟨L, 3, none⟩ (.int .i64 ((m : Int) + 1))) = wF at xS k4 kL ⊢
 have xF : Ext (fun b => r.ev.ownBlock = some b ∨ r.nv.ownBlock = some b ∨ b = r.sg ∨ b = L) w7 wF := by
  rw [hev, hnv]
  exact (x713.mono (fun _ _ h => h.elim .inl (fun h => .inr (.inl h)))).next xS (fun b h _ => .inr (.inr h))
 have hGL : ∀ b, (r.ev.ownBlock = some b ∨ r.nv.ownBlock = some b ∨ b = r.sg ∨ b = L) → FL b := fun b h => by
  rcases h with h | h | h | h
  ·exact hS7.entsF b h
  ·exact hS7.endsF b h
  ·exact h ▸ hS7.self
  ·exact h ▸ hL7.self
 have hltL := HL.out.lt
 have hltD := HD.out.lt
 have h56 := y6.size
 have h05 := y5.size
 have h67 := x7.size
 have h7F := xF.size
 have hmnext := hL7.chain
 simp only [List.map_append, List.map_cons, List.map_nil] at hmnext
 have hnext := hmnext.last_next
 have x8F : Ext (fun b => r.ev.ownBlock = some b ∨ r.nv.ownBlock = some b ∨ b = r.sg ∨ b = L) w8 wF := by
  rw [hev, hnv]
  exact (((x9.of_no).trans (Hx10.out.mono (fun _ _ h => .inl h))).trans (x10d.mono (fun _ _ h => .inr (.inl h)))).trans (xS.mono (fun _ _ h => .inr (.inr h)))
 have hlogF := LogAt.more (v := .slice a8 l.length k8) (ev' := .slice ea2 (r.xs ++ [Value.slice a8 l.length k8]).length ec2) (nv' := .slice na2 (natsV r.p.ends ++ [Value.int .i64 ((z : Int) + (fr.length : Int))]).length nc2) (l := l) hL7 xF
  (by rw [show ((m + 1 : Nat) : Int) = (m : Int) + 1 by omega]; exact kL) k4 ?_ ?_ ?_ ?_ ?_ ?_ HM.out Hb30.out
 ·refine ⟨((x27.mono (fun _ _ h => .inl h)).next xF (fun b h hb => .inr (hGL b h))), Gr FD w6 w7, Gr FL w7 wF, ?_, ?_, ?_, ⟨_, _, hlogF, by simp, fun _ => ⟨ini, _, rfl, rfl⟩⟩, ?_⟩
  ·intro b hb
   rcases hb with hb | hb
   ·exact .inl hb
   ·exact .inr (by omega)
  ·intro b hb
   rcases hb with hb | hb
   ·exact .inl hb
   ·exact .inr (by omega)
  ·rw [Hful.out, Hfr.out]
   refine d7.ext xF (fun b hb hG => ?_)
   have hb2 := hGL b hG
   rcases hb with hb | hb
   ·exact Hdis.out b hb hb2
   ·have := hltL b hb2; omega
  ·intro b hb hb2
   rcases hb with hb | hb
   ·rcases hb2 with hb2 | hb2
    ·exact Hdis.out b hb hb2
    ·have := hltD b hb; omega
   ·rcases hb2 with hb2 | hb2
    ·have := hltL b hb2; omega
    ·omega
 ·exact (Ho10.out.ext x10d (own_apart onv10 Ho10.out (by decide))).ext xS (fun g hg h => h.elim
   (fun h => (Ho10.out.ext x10d (own_apart onv10 Ho10.out (by decide))).ne_blk b13 (by decide) g hg h.symm)
   (fun h => (Ho10.out.ext x10d (own_apart onv10 Ho10.out (by decide))).ne_blk bL13 (by decide) g hg h.symm))
 ·have e : natsV (PSeg.ends ⟨r.p.first, r.p.es ++ [l]⟩) = natsV r.p.ends ++ [.int .i64 ((z : Int) + (fr.length : Int))] := by
   rw [PSeg.ends_snoc, hnext, Hful.out, Hfr.out, Hz.out]
   simp [natsV]
  rw [e]
  exact Ho13.out.ext xS (fun g hg h => h.elim (fun h => Ho13.out.ne_blk b13 (by decide) g hg h.symm) (fun h => Ho13.out.ne_blk bL13 (by decide) g hg h.symm))
 ·refine RdU.of_own (Ho8.out.ext x8F (fun g hg hG => ?_))
  have h1 : w7.heap.size ≤ g := Hf8.out g hg
  have h2 := hltL g (hGL g hG)
  omega
 ·exact fun g hg => Hf8.out g hg
 ·intro g hg
  rw [hev]
  rcases Hh10.out with h | ⟨g', h1, h2⟩
  ·exact .inl (h ▸ hg)
  ·rw [h1] at hg; cases hg; exact .inr (Nat.le_trans y9.size h2)
 ·intro g hg
  rw [hnv]
  rcases Hh13.out with h | ⟨g', h1, h2⟩
  ·exact .inl (h ▸ hg)
  ·rw [h1] at hg; cases hg; exact .inr (Nat.le_trans (Nat.le_trans x7a.size y12.size) h2)
end Go.Proofs.YtgglbholbkdgfaaGreatDoor
