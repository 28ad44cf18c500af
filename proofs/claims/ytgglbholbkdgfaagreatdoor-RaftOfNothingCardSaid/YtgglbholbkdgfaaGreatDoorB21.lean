/- Package wal: the search for the segment that has an entry; of, Get. -/
import Derived.Test.YtgglbholbkdgfaaGreatDoorB20
namespace Go.Proofs.YtgglbholbkdgfaaGreatDoor
open Go.RowKit

def cmpV (a b : Int) : Int := if a < b then -1 else if b < a then 1 else 0

set_option maxRecDepth 100000 in
set_option maxHeartbeats 400000 in
theorem compare_any (a b : Int) (w : World) : Calls Tryz.prog 105 #[.int .i64 a, .int .i64 b] w fun e w' => e = .returned (.int .i64 (cmpV a b)) ∧ w' = w := by
  unfold cmpV
  by_cases h1 : a < b
  · rw [if_pos h1]
    go_enter Tryz.func105, Tryz.ntmps105
    go_wp2_with fail
    refine (Tryz.cmp_isNaN_int2 a _).mono ?_; rintro e w1 ⟨rfl, rfl⟩
    go_wp2_with fail
    refine (Tryz.cmp_isNaN_int2 b _).mono ?_; rintro e w1 ⟨rfl, rfl⟩
    go_wp2_with fail
    go_ret
    exact ⟨rfl, rfl⟩
  · rw [if_neg h1]
    by_cases h2 : b < a
    · rw [if_pos h2]
      go_enter Tryz.func105, Tryz.ntmps105
      go_wp2_with fail
      refine (Tryz.cmp_isNaN_int2 a _).mono ?_; rintro e w1 ⟨rfl, rfl⟩
      go_wp2_with fail
      refine (Tryz.cmp_isNaN_int2 b _).mono ?_; rintro e w1 ⟨rfl, rfl⟩
      go_wp2_with fail
      go_ret
      exact ⟨rfl, rfl⟩
    · rw [if_neg h2]
      go_enter Tryz.func105, Tryz.ntmps105
      go_wp2_with fail
      refine (Tryz.cmp_isNaN_int2 a _).mono ?_; rintro e w1 ⟨rfl, rfl⟩
      go_wp2_with fail
      refine (Tryz.cmp_isNaN_int2 b _).mono ?_; rintro e w1 ⟨rfl, rfl⟩
      go_wp2_with fail
      go_ret
      exact ⟨rfl, rfl⟩

set_option maxRecDepth 100000 in
set_option maxHeartbeats 400000 in
theorem cmpSeg_any (sg : Nat) (n : Int) (i : Int) (w : World) (h : w.cell? ⟨sg, 0, none⟩ = some (.int .i64 n)) :
    Calls Tryz.prog 104 #[.pointer (some ⟨sg, 0, none⟩), .int .i64 i] w fun e w' => e = .returned (.int .i64 (cmpV n i)) ∧ w = w' := by
  go_enter Tryz.func104, Tryz.ntmps104
  go_wp2_with fail
  refine (compare_any n i _).mono ?_; rintro e w1 ⟨rfl, rfl⟩
  go_wp2_with fail
  go_ret
  exact ⟨rfl, rfl⟩

/-- What is said of the search's ending: k segments begin ahead of i. -/
def FindEnds (fs : List Nat) (i : Nat) (w : World) (e : Ending) (w' : World) : Prop :=
  ∃ k, k ≤ fs.length ∧ (∀ j f, j < k → fs[j]? = some f → f < i) ∧ (∀ j f, k ≤ j → fs[j]? = some f → i ≤ f) ∧ e = .returned (.tuple #[.int .i64 k, .bool (decide (fs[k]? = some i))]) ∧ Ext NoB w w'

set_option maxRecDepth 100000 in
set_option maxHeartbeats 400000 in
theorem find_any (b off n c : Nat) (sgs : List Nat) (fs : List Nat) (i : Nat) (w : World) (hn : fs.length = n) (hs : sgs.length = n) (hc : n ≤ 1000)
    (hp : ∀ (j g : Nat), sgs[j]? = some g → w.cell? ⟨b, off + j, none⟩ = some (.pointer (some ⟨g, 0, none⟩)))
    (hf : ∀ (j g f : Nat), sgs[j]? = some g → fs[j]? = some f → w.cell? ⟨g, 0, none⟩ = some (.int .i64 f))
    (hsort : ∀ (j k f g : Nat), j < k → fs[j]? = some f → fs[k]? = some g → f < g) (hi : i < 1000000) :
    Calls Tryz.prog 103 #[.slice (some ⟨b, off, none⟩) n c, .int .i64 i, .func (.func 104) #[] #[]] w (FindEnds fs i w) := by
  have Hp := Lib.hid hp
  have Hf := Lib.hid hf
  have Hs := Lib.hid hsort
  clear hp hf hsort
  go_enter Tryz.func103, Tryz.ntmps103
  go_wp2_with fail
  go_loop [9, 10] (fun lo hi => ∃ (l h : Nat), lo = .int .i64 l ∧ hi = .int .i64 h ∧ l ≤ h ∧ h ≤ n ∧ Hid (∀ j f, j < l → fs[j]? = some f → f < i) ∧ Hid (∀ j f, h ≤ j → fs[j]? = some f → i ≤ f)) (fun lo hi => (intOf hi).toNat - (intOf lo).toNat)
  case atStart => exact ⟨0, n, rfl, rfl, by omega, by omega, Lib.hid (fun j f h _ => absurd h (by omega)), Lib.hid (fun j f h e => by have := (List.getElem?_eq_some_iff.1 e).1; omega)⟩
  case round =>
    obtain ⟨l, h, rfl, rfl, hlh, hhn, H1, H2⟩ := hrel
    by_cases hlt : l < h
    · obtain ⟨m, hm⟩ : ∃ m, (l + h) / 2 = m := ⟨_, rfl⟩
      have hm1 : l ≤ m := by omega
      have hm2 : m < h := by omega
      have hm3 : m < n := by omega
      obtain ⟨sg, hsg⟩ : ∃ sg, sgs[m]? = some sg := ⟨sgs[m]'(by omega), by simp⟩
      obtain ⟨f, hfm⟩ : ∃ f, fs[m]? = some f := ⟨fs[m]'(by omega), by simp⟩
      have k1 := Hp.out m sg hsg
      have k2 := Hf.out m sg f hsg hfm
      have HS := Lib.hid hsg
      have HF := Lib.hid hfm
      clear hsg hfm
      by_cases hfi : f < i
      · have hcv : cmpV f i = -1 := by unfold cmpV; rw [if_pos (by omega)]
        go_wp2_with fail
        refine (cmpSeg_any sg f i w k2).mono ?_; rintro e w1 ⟨rfl, rfl⟩
        rw [hcv]
        go_wp2_with fail
        go_round
        case rel => exact ⟨m + 1, h, by go_num, rfl, by omega, by omega, Lib.hid (fun j g hj hg => by
          rcases Nat.lt_or_ge j m with hjm | hjm
          · exact Nat.lt_trans (Hs.out j m g f hjm hg HF.out) hfi
          · obtain rfl : j = m := by omega
            rw [HF.out] at hg; cases hg; exact hfi), H2⟩
        case measure => simp [intOf]; omega
      · have hcv : 0 ≤ cmpV f i := by unfold cmpV; rw [if_neg (by omega)]; split <;> omega
        obtain ⟨cv, hcv'⟩ : ∃ cv, cmpV f i = cv := ⟨_, rfl⟩
        rw [hcv'] at hcv
        go_wp2_with fail
        refine (cmpSeg_any sg f i w k2).mono ?_; rintro e w1 ⟨rfl, rfl⟩
        rw [hcv']
        go_wp2_with fail
        go_round
        case rel => exact ⟨l, m, rfl, by go_num, by omega, by omega, H1, Lib.hid (fun j g hj hg => by
          rcases Nat.lt_or_ge m j with hjm | hjm
          · exact Nat.le_trans (Nat.not_lt.1 hfi) (Nat.le_of_lt (Hs.out m j f g hjm HF.out hg))
          · obtain rfl : j = m := by omega
            rw [HF.out] at hg; cases hg; exact Nat.not_lt.1 hfi)⟩
        case measure => simp [intOf]; omega
    · obtain rfl : l = h := by omega
      by_cases hln : l < n
      · obtain ⟨sg, hsg⟩ : ∃ sg, sgs[l]? = some sg := ⟨sgs[l]'(by omega), by simp⟩
        obtain ⟨f, hfm⟩ : ∃ f, fs[l]? = some f := ⟨fs[l]'(by omega), by simp⟩
        have k1 := Hp.out l sg hsg
        have k2 := Hf.out l sg f hsg hfm
        have HF := Lib.hid hfm
        have hge := H2.out l f (Nat.le_refl _) hfm
        obtain ⟨cv, hcv'⟩ : ∃ cv, cmpV f i = cv := ⟨_, rfl⟩
        have hcz : (cv = 0) ↔ f = i := by
          rw [← hcv']; unfold cmpV
          rw [if_neg (by omega)]
          split <;> omega
        have Hcz := Lib.hid hcz
        clear hsg hfm hcz
        go_wp2_with fail
        refine (cmpSeg_any sg f i w k2).mono ?_; rintro e w1 ⟨rfl, rfl⟩
        rw [hcv']
        go_wp2_with fail
        go_ret2
        refine ⟨l, by omega, H1.out, H2.out, ?_, Ext.refl _ _⟩
        rw [HF.out]
        have : (cv == 0) = decide (some f = some i) := by
          by_cases h : f = i
          · simp [h, Hcz.out.2 h]
          · have h' : cv ≠ 0 := fun e => h (Hcz.out.1 e)
            simp [h, h']
        rw [← this]
        rfl
      · obtain rfl : l = n := by omega
        go_wp2_with fail
        go_ret2
        refine ⟨l, by omega, H1.out, H2.out, ?_, Ext.refl _ _⟩
        have : fs[l]? = none := by rw [List.getElem?_eq_none]; omega
        rw [this]
        rfl

theorem Chain.sorted : ∀ {n : Nat} {ps : List PSeg} {m : Nat}, Chain n ps m → ∀ (j k : Nat) (p q : PSeg), j < k → ps[j]? = some p → ps[k]? = some q → p.next ≤ q.first
  | n, [], m, h, j, k, p, q, _, hp, _ => by cases hp
  | n, a :: ps, m, h, j, k, p, q, hjk, hp, hq => by
    obtain ⟨h1, h2, h3⟩ := h
    obtain ⟨k, rfl⟩ : ∃ k', k = k' + 1 := ⟨k - 1, by omega⟩
    simp only [List.getElem?_cons_succ] at hq
    cases j with
    | zero =>
      simp at hp; subst hp
      have := (Chain.le h3).2 q (List.mem_of_getElem? hq)
      unfold PSeg.next; omega
    | succ j => exact Chain.sorted h3 j k p q (by omega) (by simpa using hp) hq
theorem Chain.pos : ∀ {n : Nat} {ps : List PSeg} {m : Nat}, Chain n ps m → ∀ p ∈ ps, p.first < p.next
  | n, [], m, h, p, hp => by cases hp
  | n, a :: ps, m, h, p, hp => by
    obtain ⟨h1, h2, h3⟩ := h
    rcases List.mem_cons.1 hp with rfl | hp
    · have := List.length_pos_iff.2 h2; unfold PSeg.next; omega
    · exact Chain.pos h3 p hp

set_option maxRecDepth 100000 in
set_option maxHeartbeats 400000 in
theorem of_seg (L d : Nat) (F : Nat → Prop) (pre : ByteArray) (sv : Value) (rs : List RSeg) (m : Nat) (w : World) (h : LogAt w L d F pre sv rs m) (i j : Nat) (r : RSeg) (hj : rs[j]? = some r) (hi1 : r.p.first ≤ i) (hi2 : i < r.p.next) :
    Calls Tryz.prog 75 #[.pointer (some ⟨L, 0, none⟩), .int .i64 i] w fun e w' => e = .returned r.ptr ∧ Ext NoB w w' := by
  have hne : rs ≠ [] := by rintro rfl; cases hj
  obtain ⟨b, off, c, rfl, hn, hc, hcell⟩ := h.seg hne
  have c2 : w.cell? ⟨L, 2, none⟩ = some (.slice (some ⟨b, off, none⟩) rs.length c) := by rw [cell_of_blk h.blk]; rfl
  have hcount := h.chain.count
  have hm := h.m100
  simp only [List.length_map] at hcount
  have hjl := (List.getElem?_eq_some_iff.1 hj).1
  have hnext : r.p.next ≤ m := ((h.chain.le).2 r.p (List.mem_map.2 ⟨r, List.mem_of_getElem? hj, rfl⟩)).2
  have hsort : ∀ (j k : Nat) (p q : RSeg), j < k → rs[j]? = some p → rs[k]? = some q → p.p.next ≤ q.p.first := fun j k p q hjk hp hq => h.chain.sorted j k p.p q.p hjk (by rw [List.getElem?_map, hp]; rfl) (by rw [List.getElem?_map, hq]; rfl)
  have hpos : ∀ p ∈ rs, p.p.first < p.p.next := fun p hp => h.chain.pos p.p (List.mem_map.2 ⟨p, hp, rfl⟩)
  have hfind := fun (w' : World) (x : Ext NoB w w') => find_any b off rs.length c (rs.map (·.sg)) (rs.map (·.p.first)) i w' (by simp) (by simp) (by omega)
    (fun j g hg => by
      rw [List.getElem?_map] at hg
      cases hr : rs[j]? with
      | none => rw [hr] at hg; cases hg
      | some r => rw [hr] at hg; cases hg; exact x.cell (hcell j r hr) (fun h => h))
    (fun j g f hg hf => by
      rw [List.getElem?_map] at hg hf
      cases hr : rs[j]? with
      | none => rw [hr] at hg; cases hg
      | some r =>
        rw [hr] at hg hf; cases hg; cases hf
        have hb := x.blk (h.each r (List.mem_of_getElem? hr)).blk (fun h => h)
        rw [cell_of_blk hb]; rfl)
    (fun j k f g hjk hf hg => by
      rw [List.getElem?_map] at hg hf
      cases hr : rs[j]? with
      | none => rw [hr] at hf; cases hf
      | some p =>
        cases hq : rs[k]? with
        | none => rw [hq] at hg; cases hg
        | some q =>
          rw [hr] at hf; rw [hq] at hg; cases hf; cases hg
          have := hsort j k p q hjk hr hq
          have := hpos p (List.mem_of_getElem? hr)
          show p.p.first < q.p.first
          omega) (by omega)
  have hseg := h.each r (List.mem_of_getElem? hj)
  have hnx := fun (w' : World) (x : Ext NoB w w') => next_any F r w' (hseg.ext x (fun _ _ h => h)) (by omega)
  have Hfind := Lib.hid hfind
  have Hnx := Lib.hid hnx
  have Hsort := Lib.hid hsort
  have Hpos := Lib.hid hpos
  have Hj := Lib.hid hj
  have cj := hcell j r hj
  unfold RSeg.ptr at cj hnx ⊢
  clear h hcell hfind hnx hsort hpos hj hseg
  go_enter Tryz.func75, Tryz.ntmps75
  go_wp2_with fail
  refine (Hfind.out w (Ext.refl _ _)).mono ?_
  rintro e w1 ⟨k, hk, hlo, hhi, rfl, x1⟩
  simp only [List.length_map] at hk
  have hc2 := x1.cell c2 (fun h => h)
  have hcj := x1.cell cj (fun h => h)
  have hget : ∀ k (q : RSeg), rs[k]? = some q → (rs.map (·.p.first))[k]? = some q.p.first := fun k q hq => by rw [List.getElem?_map, hq]; rfl
  have hfj := hget j r Hj.out
  by_cases hfound : (rs.map (·.p.first))[k]? = some i
  · have hkj : k = j := by
      obtain ⟨q, hq⟩ : ∃ q, rs[k]? = some q := by
        cases hq : rs[k]? with
        | none => rw [List.getElem?_map, hq] at hfound; cases hfound
        | some q => exact ⟨q, rfl⟩
      have hfk := hget k q hq
      rw [hfound] at hfk
      have hfk' : q.p.first = i := by simpa using hfk.symm
      rcases Nat.lt_trichotomy k j with hlt | he | hgt
      · have := Hsort.out k j q r hlt hq Hj.out
        have := Hpos.out q (List.mem_of_getElem? hq)
        omega
      · exact he
      · have := Hsort.out j k r q hgt Hj.out hq
        omega
    subst hkj
    rw [decide_eq_true hfound]
    clear hlo hhi hget hfj hfound c2 cj
    have hr0 : (0 : Int) ≤ (k : Int) := by omega
    have hr1 : (k : Int) < (rs.length : Int) := by omega
    have hr2 : ((k : Int)).toNat = k := by omega
    have hr3 : ¬ ((r.p.next : Int) ≤ (i : Int)) := by omega
    go_wp2_with fail
    refine (Hnx.out w1 x1).mono ?_; rintro e w2 ⟨rfl, x2⟩
    have hc2 := x2.cell hc2 (fun h => h)
    have hcj := x2.cell hcj (fun h => h)
    go_wp2_with fail
    go_ret
    exact ⟨rfl, x1.trans x2⟩
  · have hkj : k = j + 1 := by
      have h1 : j < k := by
        rcases Nat.lt_or_ge j k with h | h
        · exact h
        · have h2 := hhi j _ h hfj
          have h3 : r.p.first = i := by omega
          rcases Nat.eq_or_lt_of_le h with he | hlt
          · subst he; rw [h3] at hfj; exact (hfound hfj).elim
          · obtain ⟨q, hq⟩ : ∃ q, rs[k]? = some q := ⟨rs[k]'(by omega), by simp⟩
            have h4 := hhi k _ (Nat.le_refl _) (hget k q hq)
            have h5 := Hsort.out k j q r hlt hq Hj.out
            have h6 := Hpos.out q (List.mem_of_getElem? hq)
            omega
      rcases Nat.lt_or_ge (j + 1) k with h | h
      · obtain ⟨q, hq⟩ : ∃ q, rs[k - 1]? = some q := ⟨rs[k - 1]'(by omega), by simp⟩
        have h4 := hlo (k - 1) _ (by omega) (hget (k - 1) q hq)
        have h5 := Hsort.out j (k - 1) r q (by omega) Hj.out hq
        omega
      · omega
    subst hkj
    rw [decide_eq_false hfound]
    clear hlo hhi hget hfj hfound c2 cj
    have hw : IntKind.i64.wrap (((j + 1 : Nat) : Int) - 1) = (j : Int) := by rw [IntWalk.i64_in _ (by omega)]; omega
    have hr0 : (0 : Int) ≤ (j : Int) := by omega
    have hr1 : (j : Int) < (rs.length : Int) := by omega
    have hr2 : ((j : Int)).toNat = j := by omega
    have hr3 : ¬ ((r.p.next : Int) ≤ (i : Int)) := by omega
    go_wp2_with fail
    refine (Hnx.out w1 x1).mono ?_; rintro e w2 ⟨rfl, x2⟩
    have hc2 := x2.cell hc2 (fun h => h)
    have hcj := x2.cell hcj (fun h => h)
    go_wp2_with fail
    go_ret
    exact ⟨rfl, x1.trans x2⟩

set_option maxRecDepth 100000 in
set_option maxHeartbeats 400000 in
theorem Get_seg (L d : Nat) (F : Nat → Prop) (pre : ByteArray) (sv : Value) (rs : List RSeg) (m : Nat) (w : World) (h : LogAt w L d F pre sv rs m) (i j : Nat) (r : RSeg) (hj : rs[j]? = some r) (hi1 : r.p.first ≤ i) (hi2 : i < r.p.next)
    (l : List UInt8) (hl : r.p.es[i - r.p.first]? = some l) (hll : l.length < 1099511627776) :
    Calls Tryz.prog 40 #[.pointer (some ⟨L, 0, none⟩), .int .i64 i] w fun e w' => ∃ v, e = .returned (.tuple #[v, .int .i64 0]) ∧ Own w' 5 1 v (bytesV l) ∧ Fresh w v ∧ Ext NoB w w' := by
  have hof := Lib.hid (of_seg L d F pre sv rs m w h i j r hj hi1 hi2)
  have hm := h.m100
  have hnext : r.p.next ≤ m := ((h.chain.le).2 r.p (List.mem_map.2 ⟨r, List.mem_of_getElem? hj, rfl⟩)).2
  have hs := h.each r (List.mem_of_getElem? hj)
  obtain ⟨x, hx1, hx2, _⟩ := hs.rows.get _ _ hl
  obtain ⟨a, n, c, hv, hln, hn, hc, _, hr⟩ := hs.ents.rd
  have hlen : n = r.p.es.length := by have := hs.rows.length; omega
  subst hlen
  have hxne : r.xs ≠ [] := by intro e; rw [e] at hx1; cases hx1
  obtain ⟨b, off, rfl, hr2⟩ := hr hxne
  have k1 := fun (w' : World) (y : Ext NoB w w') => y.cell (hr2 _ _ hx1) (fun h => h)
  have k2 : ∀ (w' : World), Ext NoB w w' → w'.cell? ⟨r.sg, 1, none⟩ = some (.slice (some ⟨b, off, none⟩) r.p.es.length c) := fun w' y => y.cell (by rw [cell_of_blk hs.blk, ← hv]; rfl) (fun h => h)
  have k3 : ∀ (w' : World), Ext NoB w w' → w'.cell? ⟨r.sg, 0, none⟩ = some (.int .i64 r.p.first) := fun w' y => y.cell (by rw [cell_of_blk hs.blk]; rfl) (fun h => h)
  obtain ⟨a', c', rfl, hn', hcm'⟩ := RdB.shape hx2.1
  have hcl := fun (w' : World) (y : Ext NoB w w') => bytesClone_any _ l w' (Rd.no hx2.1 y) (by omega)
  unfold PSeg.next at hi2 hnext
  obtain ⟨q, hq⟩ : ∃ q, i - r.p.first = q := ⟨_, rfl⟩
  rw [hq] at k1
  have hw : IntKind.i64.wrap ((i : Int) - (r.p.first : Int)) = (q : Int) := by rw [IntWalk.i64_in _ (by omega)]; omega
  have hr0 : (0 : Int) ≤ (q : Int) := by omega
  have hr1 : (q : Int) < (r.p.es.length : Int) := by omega
  have hrn : ((q : Int)).toNat = q := by omega
  have hcl' := Lib.hid hcl
  have K1 := Lib.hid k1
  have K2 := Lib.hid k2
  have K3 := Lib.hid k3
  clear h hs hx1 hx2 hv hr hr2 hxne hcl k1 k2 k3 hj hl hi1 hi2 hq hnext hm hln
  unfold RSeg.ptr at hof
  go_enter Tryz.func40, Tryz.ntmps40
  go_wp2_with fail
  refine hof.out.mono ?_; rintro e w1 ⟨rfl, x1⟩
  have k1 := K1.out w1 x1
  have k2 := K2.out w1 x1
  have k3 := K3.out w1 x1
  go_wp2_with fail
  go_still_tail 12, (by kernel_rfl)
  change wpList _ _ _ _ _ w1.drew
  go_wp2_with fail
  refine (hcl'.out w1.drew x1.drew).mono ?_; rintro e w2 ⟨v2, rfl, o2, f2, x2⟩
  go_wp2_with fail
  go_ret2
  exact ⟨v2, rfl, o2, f2.mono x1.size, (x1.drew).trans x2⟩
end Go.Proofs.YtgglbholbkdgfaaGreatDoor
