/- Regions that draw their order and end in operations that wait for all others (stores): a load may be taken first where no operation ahead of that tail writes its cell. No program in sight. -/
import Derived.OrdersHeld
import Derived.StillTail
import Derived.Tactics
import Derived.Deep.RegionHeld3
namespace Go.Proofs.YtgglbholbkdgfaaGreatDoor
open Go

section
variable {P : Program} {ops : Array Oper} {Q : Exit → Act → World → Prop} {md : Region.Mode} {S : World → Prop} {n : Nat}

/-- No operation from number n on has come up. -/
def noTail (ops : Array Oper) (n : Nat) (listed : Array Bool) : Bool := (List.range ops.size).all fun t => decide (t < n) || !(listed.getD t false)
/-- Whatever order is picked from here on; S holds behind each operation that comes up ahead of the tail. -/
def wpAnyN (P : Program) (md : Region.Mode) (ops : Array Oper) (Q : Exit → Act → World → Prop) (S : World → Prop) (n : Nat) : Nat → Array Bool → Act → World → Prop
  | 0, listed, a, w => Region.ready md ops listed = [] ∧ Q .normal a w
  | fuel + 1, listed, a, w =>
    (Region.ready md ops listed = [] → Q .normal a w) ∧
    ∀ i ∈ Region.ready md ops listed, wpOp P ops Q i (fun a' w' => (noTail ops n (listed.setIfInBounds i true) = true → S w') ∧ wpAnyN P md ops Q S n fuel (listed.setIfInBounds i true) a' w') a w
theorem wpAny_of_N : ∀ (fuel : Nat) (listed : Array Bool) (a : Act) (w : World), wpAnyN P md ops Q S n fuel listed a w → wpAny P md ops Q fuel listed a w
  | 0, _, _, _, h => h
  | fuel + 1, _, _, _, h => ⟨h.1, fun i hi => wpOp_mono (fun a' w' h' => wpAny_of_N fuel _ a' w' h'.2) (h.2 i hi)⟩

theorem getD_setNe {listed : Array Bool} {i j : Nat} (h : i ≠ j) : (listed.setIfInBounds i true).getD j false = listed.getD j false := getD_set_ne false h
theorem noTail_set {listed : Array Bool} {i : Nat} (hi : i < n) : noTail ops n (listed.setIfInBounds i true) = noTail ops n listed := by
  unfold noTail
  congr 1
  funext t
  by_cases h : t < n
  · simp [h]
  · rw [getD_setNe (by omega)]
theorem noTail_of_set {listed : Array Bool} {i : Nat} (h : noTail ops n (listed.setIfInBounds i true) = true) : noTail ops n listed = true := by
  unfold noTail at h ⊢
  rw [List.all_eq_true] at h ⊢
  intro t ht
  have := h t ht
  by_cases hti : i = t
  · subst hti
    simp only [Bool.or_eq_true, decide_eq_true_eq, Bool.not_eq_true'] at this ⊢
    rcases this with h | h
    · exact .inl h
    · refine .inr ?_
      cases hl : listed.getD i false with
      | false => rfl
      | true => rw [getD_set_true hl] at h; cases h
  · rwa [getD_setNe hti] at this

/-- Operation t waits for operation i, straight or through others (fuel: how many). -/
def depB (md : Region.Mode) (ops : Array Oper) : Nat → Nat → Nat → Bool
  | 0, _, _ => false
  | f + 1, t, i => Region.waitsFor md ops t i || (List.range ops.size).any fun j => Region.waitsFor md ops t j && depB md ops f j i
/-- Whatever has come up has come up behind all that it waits for. -/
def Closed (md : Region.Mode) (ops : Array Oper) (listed : Array Bool) : Prop := ∀ (j : Nat) (oj : Oper), ops[j]? = some oj → listed.getD j false = true → ∀ e ∈ oj.after, Region.binds md e = true → listed.getD e.on false = true
def closedB (md : Region.Mode) (ops : Array Oper) (listed : Array Bool) : Bool :=
  (List.range ops.size).all fun j => !(listed.getD j false) || match ops[j]? with | some oj => oj.after.all (fun e => !(Region.binds md e) || listed.getD e.on false) | none => true
theorem closed_of {listed : Array Bool} (h : closedB md ops listed = true) : Closed md ops listed := fun j oj hj hl e he hb => by
  have h4 := List.all_eq_true.1 h j (List.mem_range.2 (Array.getElem?_eq_some_iff.1 hj).1)
  simp only [hl, hj, Bool.not_true, Bool.false_or] at h4
  have h5 := Array.all_eq_true_iff_forall_mem.1 h4 e he
  simpa [hb] using h5
theorem Closed.set {listed : Array Bool} (h : Closed md ops listed) {i : Nat} (hi : i ∈ Region.ready md ops listed) : Closed md ops (listed.setIfInBounds i true) := by
  obtain ⟨_, oi, hoi, hall⟩ := mem_ready.1 hi
  intro j oj hj hl e he hb
  by_cases hij : i = j
  · subst hij
    have : oj = oi := Option.some.inj (hj.symm.trans hoi)
    subst this
    exact getD_set_true (hall e he hb)
  · rw [getD_set_ne false hij] at hl
    exact getD_set_true (h j oj hj hl e he hb)
theorem dep_listed {listed : Array Bool} (hc : Closed md ops listed) : ∀ (f j i : Nat), depB md ops f j i = true → listed.getD j false = true → listed.getD i false = true
  | 0, _, _, h, _ => by cases h
  | f + 1, j, i, h, hl => by
    simp only [depB, Bool.or_eq_true, List.any_eq_true, Bool.and_eq_true] at h
    rcases h with h | ⟨k, _, h1, h2⟩
    · obtain ⟨oj, hoj, e, he, hb, hon⟩ := Region.waitsFor_spec h
      exact hon ▸ hc j oj hoj hl e he hb
    · obtain ⟨oj, hoj, e, he, hb, hon⟩ := Region.waitsFor_spec h1
      exact dep_listed hc f k i h2 (hon ▸ hc j oj hoj hl e he hb)
theorem dep_ready {listed : Array Bool} (hc : Closed md ops listed) {f j i : Nat} (h : depB md ops f j i = true) (hr : j ∈ Region.ready md ops listed) : listed.getD i false = true := by
  obtain ⟨_, oj, hoj, hall⟩ := mem_ready.1 hr
  cases f with
  | zero => cases h
  | succ f =>
    simp only [depB, Bool.or_eq_true, List.any_eq_true, Bool.and_eq_true] at h
    rcases h with h | ⟨k, _, h1, h2⟩
    · obtain ⟨oj', hoj', e, he, hb, hon⟩ := Region.waitsFor_spec h
      have : oj' = oj := Option.some.inj (hoj'.symm.trans hoj)
      subst this
      exact hon ▸ hall e he hb
    · obtain ⟨oj', hoj', e, he, hb, hon⟩ := Region.waitsFor_spec h1
      have : oj' = oj := Option.some.inj (hoj'.symm.trans hoj)
      subst this
      exact dep_listed hc f k i h2 (hon ▸ hall e he hb)

/-- An operation of the head that yields in every world that meets S0 may be taken first, if S0 holds as long as it has not come up. -/
theorem wpAnyN_first {S0 : World → Prop} {i : Nat} {oi : Oper} {v : Value} (hi : ops[i]? = some oi) (hsel : ∀ (j : Nat) (o : Oper) cs b, ops[j]? = some o → o.op ≠ .select cs b) (hin : i < n)
    (h0 : (∀ w, S0 w) ∨ ((∀ w, S w → S0 w) ∧ ∀ t, n ≤ t → t < ops.size → ∃ f, depB md ops f t i = true))
    (hQ : ∀ c a w, Q (.panic c) (a.put oi.dst v) w → Q (.panic c) a w) :
    ∀ (fuel : Nat) (listed : Array Bool) (a : Act) (w : World), Closed md ops listed →
      (∀ j oj, ops[j]? = some oj → j ≠ i → listed.getD j true = false → (∀ e ∈ oj.after, Region.binds md e = true → e.on ≠ i) → oi.apart ops oj = true) →
      i ∈ Region.ready md ops listed → YieldsIf P ops S0 oi v a → (noTail ops n listed = true → S w) → ((∀ w, S0 w) ∨ noTail ops n listed = true) →
      wpAnyN P md ops Q S n fuel (listed.setIfInBounds i true) (a.put oi.dst v) w → wpAnyN P md ops Q S n (fuel + 1) listed a w := by
  intro fuel
  induction fuel with
  | zero =>
    intro listed a w _ _ hr hy hS hS0 H
    have hw0 : S0 w := by
      rcases h0 with h | h
      · exact h w
      · rcases hS0 with h' | h'
        · exact h' w
        · exact h.1 w (hS h')
    refine ⟨fun h => (by rw [h] at hr; cases hr), fun j hj => ?_⟩
    by_cases hji : j = i
    · subst hji; exact hy.wpOp hi hw0 ⟨fun h => hS (noTail_of_set h), H⟩
    · have := ready_mono hj hji
      rw [H.1] at this
      cases this
  | succ fuel ih =>
    intro listed a w hcl hfree hr hy hS hS0 H
    have hw0 : S0 w := by
      rcases h0 with h | h
      · exact h w
      · rcases hS0 with h' | h'
        · exact h' w
        · exact h.1 w (hS h')
    refine ⟨fun h => (by rw [h] at hr; cases hr), fun j hj => ?_⟩
    by_cases hji : j = i
    · subst hji; exact hy.wpOp hi hw0 ⟨fun h => hS (noTail_of_set h), H⟩
    · have h1 := H.2 j (ready_mono hj hji)
      obtain ⟨hjun, oj, hoj, hall⟩ := mem_ready.1 hj
      have hnot : ∀ e ∈ oj.after, Region.binds md e = true → e.on ≠ i := fun e he hb heq => by
        have h1 := hall e he hb
        have h0 := (mem_ready.1 hr).1
        rw [heq] at h1
        rcases Nat.lt_or_ge i listed.size with h' | h'
        · simp [h'] at h0 h1; rw [h0] at h1; cases h1
        · simp [Array.getElem?_eq_none h'] at h1
      have hjn : (∀ w, S0 w) ∨ j < n := by
        rcases h0 with h | h
        · exact .inl h
        · refine .inr (Nat.lt_of_not_le fun hnj => ?_)
          obtain ⟨f, hf⟩ := h.2 j hnj (Array.getElem?_eq_some_iff.1 hoj).1
          have h3 := dep_ready hcl hf hj
          have h4 := (mem_ready.1 hr).1
          rw [getD_both h4] at h3
          cases h3
      have h2 := wpOp_putIf hoj (hfree j oj hoj hji hjun hnot) (fun cs b => hsel i oi cs b hi) (fun cs b => hsel j oj cs b hoj) hQ hy h1
      have hfree' : ∀ k ok, ops[k]? = some ok → k ≠ i → (listed.setIfInBounds j true).getD k true = false →
          (∀ e ∈ ok.after, Region.binds md e = true → e.on ≠ i) → oi.apart ops ok = true := fun k ok hk hki hun hno => by
        refine hfree k ok hk hki ?_ hno
        by_cases hjk : j = k
        · subst hjk; exact hjun
        · rw [getD_set_ne true hjk] at hun; exact hun
      have hnt : noTail ops n ((listed.setIfInBounds i true).setIfInBounds j true) = noTail ops n (listed.setIfInBounds j true) := by
        rw [Array.setIfInBounds_comm _ _ (Ne.symm hji), noTail_set hin]
      refine wpOp_mono (fun a' w' h3 => ?_) h2
      obtain ⟨h4, h5, h6⟩ := h3
      rw [hnt] at h5
      refine ⟨h5, ih (listed.setIfInBounds j true) a' w' (hcl.set hj) hfree' (ready_mono hr (Ne.symm hji)) h4 h5 ?_ ?_⟩
      · rcases hS0 with h | h
        · exact .inl h
        · rcases hjn with h' | h'
          · exact .inl h'
          · exact .inr (by rw [noTail_set h']; exact h)
      · rw [Array.setIfInBounds_comm _ _ hji]
        exact h6

/-- All that is asked of what is taken first in whatever world, in one Bool. -/
def freeB (md : Region.Mode) (ops : Array Oper) (n : Nat) (listed : Array Bool) (i : Nat) : Bool :=
  (Region.ready md ops listed).contains i && Region.free md ops listed i && decide (i < n) && Region.noSelect ops && noTail ops n listed && closedB md ops listed
/-- .. in every world that meets S. -/
def takeB (md : Region.Mode) (ops : Array Oper) (n : Nat) (listed : Array Bool) (i : Nat) : Bool :=
  freeB md ops n listed i && ((List.range ops.size).all fun t => decide (t < n) || depB md ops 12 t i)
theorem wpAnyN_free (i : Nat) {oi : Oper} {v : Value} {fuel : Nat} {listed : Array Bool} {a : Act} {w : World} (hb : freeB md ops n listed i = true) (hi : ops[i]? = some oi)
    (hQ : ∀ c a w, Q (.panic c) (a.put oi.dst v) w → Q (.panic c) a w) (hS : S w) (hw : Region.wanted oi (yielded ops a.tmps) = true) (hy : ∀ w, (execOp a.eval oi).run P w = .ok (.value v) w)
    (h : wpAnyN P md ops Q S n fuel (listed.setIfInBounds i true) (a.put oi.dst v) w) : wpAnyN P md ops Q S n (fuel + 1) listed a w := by
  unfold freeB at hb
  simp only [Bool.and_eq_true, decide_eq_true_eq] at hb
  obtain ⟨⟨⟨⟨⟨h1, h2⟩, h3⟩, h6⟩, h7⟩, hcl⟩ := hb
  exact wpAnyN_first (S0 := fun _ => True) hi (Region.noSelect_spec h6) h3 (.inl fun _ => trivial) hQ fuel listed a w (closed_of hcl) (Region.free_spec hi h2) (by simpa using h1) (.inl ⟨hw, fun w _ => hy w⟩) (fun _ => hS) (.inr h7) h
theorem wpAnyN_take (i : Nat) {oi : Oper} {v : Value} {fuel : Nat} {listed : Array Bool} {a : Act} {w : World} (hb : takeB md ops n listed i = true) (hi : ops[i]? = some oi)
    (hQ : ∀ c a w, Q (.panic c) (a.put oi.dst v) w → Q (.panic c) a w) (hS : S w) (hw : Region.wanted oi (yielded ops a.tmps) = true) (hy : ∀ w, S w → (execOp a.eval oi).run P w = .ok (.value v) w)
    (h : wpAnyN P md ops Q S n fuel (listed.setIfInBounds i true) (a.put oi.dst v) w) : wpAnyN P md ops Q S n (fuel + 1) listed a w := by
  unfold takeB freeB at hb
  simp only [Bool.and_eq_true, decide_eq_true_eq] at hb
  obtain ⟨⟨⟨⟨⟨⟨h1, h2⟩, h3⟩, h6⟩, h7⟩, hcl⟩, h8⟩ := hb
  refine wpAnyN_first (S0 := S) hi (Region.noSelect_spec h6) h3 (.inr ⟨fun _ h => h, fun t ht hlt => ?_⟩) hQ fuel listed a w (closed_of hcl) (Region.free_spec hi h2) (by simpa using h1) (.inl ⟨hw, hy⟩) (fun _ => hS) (.inr h7) h
  have h9 := List.all_eq_true.1 h8 t (List.mem_range.2 hlt)
  have : decide (t < n) = false := by simp; omega
  exact ⟨12, by simpa [this] using h9⟩

/-- One operation alone may come up: it is carried out. -/
def oneB (md : Region.Mode) (ops : Array Oper) (n : Nat) (listed : Array Bool) (i : Nat) : Bool := decide (Region.ready md ops listed = [i]) && decide (i < n)
theorem wpAnyN_one (i : Nat) {oi : Oper} {fuel : Nat} {listed : Array Bool} {a : Act} {w : World} (hb : oneB md ops n listed i = true) (hi : ops[i]? = some oi) (hw : Region.wanted oi (yielded ops a.tmps) = true)
    (h : ∀ K : Act → World → Prop, Shut (∀ a' w', S w' → (S w' → wpAnyN P md ops Q S n fuel (listed.setIfInBounds i true) a' w') → K a' w') → Oper.wp P oi a w K Q) : wpAnyN P md ops Q S n (fuel + 1) listed a w := by
  unfold oneB at hb
  simp only [Bool.and_eq_true, decide_eq_true_eq] at hb
  refine ⟨fun h0 => (by rw [hb.1] at h0; cases h0), fun j hj => ?_⟩
  rw [hb.1] at hj
  have : j = i := by simpa using hj
  subst this
  refine wpOp_step hi (fun K' hK => ?_)
  rw [if_pos hw]
  exact h K' (fun a' w' h1 h2 => hK a' w' ⟨fun _ => h1, h2 h1⟩)

/-- The tail, in its order. -/
theorem wpAnyN_of_seq : ∀ (l : List Oper) (k : Nat) (listed : Array Bool) (a : Act) (w : World), n ≤ k → k + l.length = ops.size → listed.size = ops.size → (∀ j, l[j]? = ops[k + j]?) →
    Region.seqB md ops l.length k listed = true → wpList P ops Q l a w → wpAnyN P md ops Q S n l.length listed a w
  | [], k, listed, a, w, _, _, _, hl, hB, h => ⟨by simpa [Region.seqB] using hB, h⟩
  | o :: l, k, listed, a, w, hnk, hkl, hls, hl, hB, h => by
    have h0 : ops[k]? = some o := by simpa using (hl 0).symm
    simp only [List.length_cons, Region.seqB, Bool.and_eq_true, decide_eq_true_eq] at hB
    refine ⟨fun h1 => (by rw [hB.1] at h1; cases h1), fun i hi => ?_⟩
    rw [hB.1] at hi
    have hik : i = k := by simpa using hi
    subst hik
    have hw : wpOp P ops Q i (wpList P ops Q l) a w := by unfold wpOp; simp only [h0]; exact h
    refine wpOp_mono (fun a' w' h' => ⟨fun hnt => ?_, wpAnyN_of_seq l (i + 1) _ a' w' (by omega) (by simp only [List.length_cons] at hkl; omega) (by simp [hls]) (fun j => by have := hl (j + 1); simpa [Nat.add_assoc, Nat.add_comm 1 j] using this) hB.2 h'⟩) hw
    have hlt : i < ops.size := by simp only [List.length_cons] at hkl; omega
    have h1 := List.all_eq_true.1 hnt i (List.mem_range.2 hlt)
    have : decide (i < n) = false := by simp; omega
    simp [this, hls, hlt] at h1
theorem wpAnyN_tail {l : List Oper} {g : Nat} {listed : Array Bool} {a : Act} {w : World} (hg : (l.drop n).length = g) (hn : n ≤ l.length) (hls : listed.size = l.toArray.size) (hB : Region.seqB md l.toArray g n listed = true)
    (h : wpList P l.toArray Q (l.drop n) a w) : wpAnyN P md l.toArray Q S n g listed a w := by
  subst hg
  exact wpAnyN_of_seq (l.drop n) n listed a w (Nat.le_refl _) (by simp; omega) hls (fun j => by simp [List.getElem?_drop]) hB h
/-- The beginning. -/
theorem wp_region_N {id : Nat} {a : Act} {w : World} (S : World → Prop) (n : Nat) (hm : P.follows .mixedOrders = true)
    (h : wpAnyN P .any ops Q S n ops.size (Array.replicate ops.size false) a w.drew) : (Code.region id ops true).wp P Q a w :=
  wp_region_any hm (wpAny_of_N _ _ _ _ h)
end
end Go.Proofs.YtgglbholbkdgfaaGreatDoor
