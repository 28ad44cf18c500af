/- Joined texts: B148. Each has its own head. -/
import Derived.Test.YtgglbholbkdgfaaGreatDoorK26
import Derived.Test.YtgglbholbkdgfaaGreatDoorK29
set_option linter.unusedVariables false
set_option linter.unusedSimpArgs false
namespace Go.Proofs.YtgglbholbkdgfaaGreatDoor
open Go.RowKit
def AllAt (w : World) (FS : Nat → Nat → Prop) (v : Value) (es : List Ent) : Prop :=
 ∃ ms, EntRows w ms es ∧ Own w 50 2 v ms.flatten ∧ (∀ b, v.ownBlock = some b → ∀ k, ¬ FS k b) ∧ ∀ u ∈ ms.flatten, ∀ b, u.ownBlock = some b → ∀ k, ¬ FS k b
theorem AllAt.none (w : World) (FS : Nat → Nat → Prop) : AllAt w FS (.slice none 0 0) [] := ⟨[], .nil, Own.nil _ _ _, fun b h => (by cases h), fun u h => (by cases h)⟩
theorem AllAt.step {w1 w2 : World} {FS FS' : Nat → Nat → Prop} {v : Value} {es : List Ent} (h : AllAt w1 FS v es) (x : Ext (fun b => ∃ k, FS k b) w1 w2) (hF : ∀ k b, FS' k b → (∃ j, FS j b) ∨ w1.heap.size ≤ b) : AllAt w2 FS' v es := by
 obtain ⟨ms, h1, h2, h3, h4⟩ := h
 refine ⟨ms, h1.ext' x (fun u hu b hb hk => by obtain ⟨k, hk⟩ := hk; exact h4 u hu b hb k hk), h2.ext x (fun b hb hk => by obtain ⟨k, hk⟩ := hk; exact h3 b hb k hk), fun b hb k hk => ?_, fun u hu b hb k hk => ?_⟩
 ·rcases hF k b hk with ⟨j, hj⟩ | h
  ·exact h3 b hb j hj
  ·have := h2.lt b hb; omega
 ·rcases hF k b hk with ⟨j, hj⟩ | h
  ·exact h4 u hu b hb j hj
  ·have := h1.lt u hu b hb; omega
def GK (w w1 : World) (g : Nat) (φ : List UInt8 → List UInt8) (G : PGroup) (v : Value) (es : List Ent) : Prop :=
 ∃ FS ms rv, GAt w1 g FS φ G ms rv ∧ Ext NoB w w1 ∧ (∀ k b, FS k b → w.heap.size ≤ b) ∧ AllAt w1 FS v es
theorem GK.of {w w1 : World} {g : Nat} {φ : List UInt8 → List UInt8} {G : PGroup} (h : GNew w w1 g φ G) : GK w w1 g φ G (.slice none 0 0) [] := by
 obtain ⟨FS, ms, rv, h1, h2, h3⟩ := h
 exact ⟨FS, ms, rv, h1, h2, h3, AllAt.none _ _⟩
theorem GK.new {w w1 : World} {g : Nat} {φ : List UInt8 → List UInt8} {G : PGroup} {v : Value} {es : List Ent} (h : GK w w1 g φ G v es) : GNew w w1 g φ G := by
 obtain ⟨FS, ms, rv, h1, h2, h3, _⟩ := h
 exact ⟨FS, ms, rv, h1, h2, h3⟩
theorem GK.ext {w w1 : World} {g : Nat} {φ : List UInt8 → List UInt8} {G : PGroup} {v : Value} {es : List Ent} (h : GK w w1 g φ G v es) : Ext NoB w w1 := h.new.ext
theorem GK.no {w w1 w2 : World} {g : Nat} {φ : List UInt8 → List UInt8} {G : PGroup} {v : Value} {es : List Ent} (h : GK w w1 g φ G v es) (x : Ext NoB w1 w2) : GK w w2 g φ G v es := by
 obtain ⟨FS, ms, rv, h1, h2, h3, h4⟩ := h
 exact ⟨FS, ms, rv, h1.no x, h2.trans x, h3, h4.step x.of_no (fun k b hb => .inl ⟨k, hb⟩)⟩
theorem GK.like {w w1 : World} {g : Nat} {φ : List UInt8 → List UInt8} {G H : PGroup} {v : Value} {es : List Ent} (h : GK w w1 g φ G v es) (hl : G.like H = true) : GK w w1 g φ H v es := by
 obtain ⟨FS, ms, rv, h1, h2, h3, h4⟩ := h
 exact ⟨FS, ms, rv, h1.like hl, h2, h3, h4⟩
theorem GK.shape {w w1 : World} {g : Nat} {φ : List UInt8 → List UInt8} {G : PGroup} {v : Value} {es : List Ent} (h : GK w w1 g φ G v es) : ∃ a c, v = .slice a es.length c := by
 obtain ⟨_, _, _, _, _, _, ms, h1, h2, _⟩ := h
 obtain ⟨a, n, c, rfl, hl, _⟩ := h2.rd
 have := h1.len
 exact ⟨a, c, by rw [show n = es.length by omega]⟩
theorem gstep_k {w w1 w2 : World} {g : Nat} {FS : Nat → Nat → Prop} {φ : List UInt8 → List UInt8} {G' : PGroup} {v : Value} {es : List Ent} (x : Ext NoB w w1) (hF : ∀ k b, FS k b → w.heap.size ≤ b) (ha : AllAt w1 FS v es) (h : GStep w1 w2 g FS φ G') : GK w w2 g φ G' v es := by
 obtain ⟨FS', ms', rv', h1, h2, h3⟩ := h
 refine ⟨FS', ms', rv', h1, x.next h2 (fun b hb hl => ?_), fun k b hb => ?_, ha.step h2 h3⟩
 ·obtain ⟨k, hb⟩ := hb
  have := hF k b hb
  omega
 ·rcases h3 k b hb with ⟨j, h⟩ | h
  ·exact hF j b h
  ·exact Nat.le_trans x.size h
theorem settle_k {φ : List UInt8 → List UInt8} (hφ : Tok φ) {w w1 : World} {g k : Nat} {G G' : PGroup} {v : Value} {es : List Ent} (h : GK w w1 g φ G v es) (hk : k ≤ 2000) (hall : G.mem.length = G.n) (hs : PGroup.settle k G = some G') :
  Calls Tryz.prog 29 #[.pointer (some ⟨g, 0, none⟩), .int .i64 (k : Int)] w1 fun e w' => e = .returned (.tuple #[]) ∧ GK w w' g φ G' v es := by
 obtain ⟨FS, ms, rv, hA, hX, hF, ha⟩ := h
 refine (settle_any hφ g k FS G G' ms rv w1 hk hA hall hs).mono ?_
 rintro e w2 ⟨rfl, hst⟩
 exact ⟨rfl, gstep_k hX hF ha hst⟩
theorem crash_k {φ : List UInt8 → List UInt8} {w w1 : World} {g i : Nat} {G G' : PGroup} {v : Value} {es : List Ent} (h : GK w w1 g φ G v es) (hall : G.mem.length = G.n) (hs : G.crash i = some G') (dr : Int) (hdr : 0 ≤ dr) :
  Calls Tryz.prog 30 #[.pointer (some ⟨g, 0, none⟩), .agg #[.int .i64 6, .int .i64 (i : Int), .int .i64 0, .int .i64 dr, .int .i64 0, .int .i64 0, .int .u64 0, .int .u32 0, .slice none 0 0]] w1 fun e w' => e = .returned (.int .i64 0) ∧ GK w w' g φ G' v es := by
 obtain ⟨FS, ms, rv, hA, hX, hF, ha⟩ := h
 refine (do_crash g i FS φ G G' ms rv 0 dr 0 0 0 0 none 0 0 w1 hA hall hs hdr).mono ?_
 rintro e w2 ⟨rfl, hst⟩
 exact ⟨rfl, gstep_k hX hF ha hst⟩
theorem start_k {φ : List UInt8 → List UInt8} (hφ : Tok φ) {w w1 : World} {g i : Nat} {G G' : PGroup} {v : Value} {es : List Ent} (h : GK w w1 g φ G v es) (hall : G.mem.length = G.n) (hs : G.start i = some G') :
  Calls Tryz.prog 30 #[.pointer (some ⟨g, 0, none⟩), .agg #[.int .i64 7, .int .i64 (i : Int), .int .i64 0, .int .i64 0, .int .i64 0, .int .i64 0, .int .u64 0, .int .u32 0, .slice none 0 0]] w1 fun e w' => e = .returned (.int .i64 0) ∧ GK w w' g φ G' v es := by
 obtain ⟨FS, ms, rv, hA, hX, hF, ha⟩ := h
 refine (do_start hφ g i FS G G' ms rv 0 0 0 0 0 0 none 0 0 w1 hA hall hs).mono ?_
 rintro e w2 ⟨rfl, hst⟩
 exact ⟨rfl, gstep_k hX hF ha hst⟩
theorem taken_k {φ : List UInt8 → List UInt8} (hφ : Tok φ) {w w1 : World} {g i : Nat} {G : PGroup} {m : PMem} {v : Value} {es : List Ent} (h : GK w w1 g φ G v es) (hall : G.mem.length = G.n) (hm : G.mem[i]? = some m) (hl : m.took.length ≤ 1000000) :
  Calls Tryz.prog 32 #[.pointer (some ⟨g, 0, none⟩), .int .i64 (i : Int)] w1 fun e w' => ∃ v2, e = .returned v2 ∧ GK w w' g φ G v es ∧ GK w w' g φ G v2 (m.took.map (subE φ)) := by
 obtain ⟨FS, ms, rv, hA, hX, hF, ha⟩ := h
 refine (taken_any g i FS φ hφ G ms rv m w1 hA hall hm hl).mono ?_
 rintro e w2 ⟨v2, rfl, ⟨ms2, h1, h2, h4⟩, h5, h3⟩
 refine ⟨v2, rfl, ⟨FS, ms, rv, hA.no h3, hX.trans h3, hF, ha.step h3.of_no (fun k b hb => .inl ⟨k, hb⟩)⟩, FS, ms, rv, hA.no h3, hX.trans h3, hF, ms2, h1, h2, fun b hb k hk => ?_, fun u hu b hb k hk => ?_⟩
 ·have a1 := h5 b hb
  have a2 := hA.lt k b hk
  omega
 ·have a1 := h4 u hu b hb
  have a2 := hA.lt k b hk
  omega
theorem propose_k {φ : List UInt8 → List UInt8} (hφ : Tok φ) {w w1 : World} {g i n c pn : Nat} {p : List UInt8} {G G' : PGroup} {pa : Option Addr} {pc : Nat} {v : Value} {es : List Ent} (h : GK w w1 g φ G v es) (hall : G.mem.length = G.n) (hs : G.propose i p = some ((n, c), G')) (hx : RdB w (.slice pa pn pc) (φ p)) (h1 : 1 ≤ pn) (hpn : (φ p).length = pn) :
  Calls Tryz.prog 28 #[.pointer (some ⟨g, 0, none⟩), .int .i64 (i : Int), .slice pa pn pc] w1 fun e w' => e = .returned (.tuple #[.int .i64 (n : Int), .int .i64 (c : Int)]) ∧ GK w w' g φ G' v es := by
 obtain ⟨FS, ms, rv, hA, hX, hF, ha⟩ := h
 subst hpn
 refine (propose_any hφ g i n c p FS G G' ms rv pa pc w1 hA hall hs (Rd.no hx hX) (fun k b hb hk => ?_) h1).mono ?_
 ·have a1 := hF k b hk
  have a2 := rd_below hx h1 b hb
  omega
 ·rintro e w2 ⟨rfl, hst⟩
  exact ⟨rfl, gstep_k hX hF ha hst⟩
set_option maxRecDepth 100000 in
set_option maxHeartbeats 4000000 in
theorem new_bad (n : Int) (h1 : n ≠ 1) (h3 : n ≠ 3) (h5 : n ≠ 5) (w : World) :
  Calls Tryz.prog 27 #[.int .i64 n] w fun e w' => e = .returned (.tuple #[.pointer none, .int .i64 1]) ∧ Ext NoB w w' := by
 have b1 : (n != 1) = true := bne_iff_ne.2 h1
 have b3 : (n != 3) = true := bne_iff_ne.2 h3
 have b5 : (n != 5) = true := bne_iff_ne.2 h5
 clear h1 h3 h5
 go_enter Tryz.func27, Tryz.ntmps27
 go_wp2_with fail
 go_ret2
 exact ⟨rfl, (Ext.refl NoB w).alloc _⟩
set_option maxRecDepth 100000 in
set_option maxHeartbeats 4000000 in
theorem same2_any (a b : Option Addr) (c c' n n' q : Nat) (msa msb : List (List Value)) (ea eb : List Ent) (w : World) (ha : EntRows w msa ea) (hao : Own w 50 2 (.slice a n c) msa.flatten) (hb : EntRows w msb eb) (hbo : Own w 50 2 (.slice b n' c') msb.flatten)
  (hn : ea.length = n) (hn' : eb.length = n') (hq : min n n' = q) (heq : ea.take q = eb.take q) (hl : n ≤ 1000000) (hel : ∀ e ∈ ea, e.2.length ≤ 3000) :
  Calls Tryz.prog 33 #[.slice a n c, .slice b n' c'] w fun e w' => e = .returned (.bool true) ∧ ∃ m, w' = w.drewN m := by
 obtain ⟨_, _, _, e1, _, _, _, _, hca⟩ := hao.rd
 cases e1
 obtain ⟨_, _, _, e2, _, _, _, _, hcb⟩ := hbo.rd
 cases e2
 have hmin : min (n : Int) (n' : Int) = (q : Int) := by omega
 have hqn : q ≤ n ∧ q ≤ n' := by omega
 have HA := Lib.hid (And.intro ha (And.intro hca (And.intro hn hel)))
 have HB := Lib.hid (And.intro hb (And.intro hcb (And.intro hn' heq)))
 clear ha hao hb hbo hn hn' hq heq hca hcb hel
 go_enter Tryz.func33, Tryz.ntmps33
 go_wp2_with fail
 go_loopw [6] (fun i wr => ∃ k : Nat, i = .int .i64 (k : Int) ∧ k ≤ q ∧ Hid (∃ m, wr = w.drewN m)) (fun i _ => q - (intOf i).toNat)
 case atStart => exact ⟨0, rfl, by omega, Lib.hid ⟨0, rfl⟩⟩
 case round =>
  obtain ⟨k, rfl, hk, HX⟩ := hrel
  by_cases hlt : k < q
  ·obtain ⟨ha, hca, hn, hel⟩ := HA.out
   obtain ⟨hb, hcb, hn', heq⟩ := HB.out
   obtain ⟨⟨et, ed⟩, hent⟩ : ∃ e, ea[k]? = some e := ⟨_, List.getElem?_eq_getElem (by omega)⟩
   have hent' : eb[k]? = some (et, ed) := by
    have h1 : (ea.take q)[k]? = some (et, ed) := by rw [List.getElem?_take_of_lt hlt]; exact hent
    rw [heq, List.getElem?_take_of_lt hlt] at h1
    exact h1
   have hedl := hel _ (List.mem_of_getElem? hent)
   dsimp only at hedl
   obtain ⟨dv, q0, q1, hod⟩ := ha.get k _ hent
   obtain ⟨dv', q0', q1', hod'⟩ := hb.get k _ hent'
   have hne0 : msa.flatten ≠ [] := fun e => by rw [e] at q0; cases q0
   have hne0' : msb.flatten ≠ [] := fun e => by rw [e] at q0'; cases q0'
   obtain ⟨bb, off, rfl, hcc⟩ := hca hne0
   obtain ⟨bb', off', rfl, hcc'⟩ := hcb hne0'
   obtain ⟨mm, hmm⟩ := HX.out
   have hxx : Ext NoB w wr := by rw [hmm]; exact (Ext.refl _ w).drewN _
   have d0 := hxx.cell (hcc _ _ q0) (fun h => h)
   have d1 := hxx.cell (hcc _ _ q1) (fun h => h)
   have d0' := hxx.cell (hcc' _ _ q0') (fun h => h)
   have d1' := hxx.cell (hcc' _ _ q1') (fun h => h)
   rw [← Nat.add_assoc] at d1 d1'
   obtain ⟨da, dc, rfl, _⟩ := RdB.shape (l := ed) hod.rd
   obtain ⟨da', dc', rfl, _⟩ := RdB.shape (l := ed) hod'.rd
   obtain ⟨dn, hdn⟩ : ∃ dn, ed.length = dn := ⟨_, rfl⟩
   rw [hdn] at d1 d1'
   have hsm := fun (w' : World) (hx' : Ext NoB wr w') => same17_any da da' dc dc' dn dn ed ed w' (RdB.cells (l := ed) (hod.ext (hxx.trans hx') (fun _ _ h => h)).rd) (RdB.cells (l := ed) (hod'.ext (hxx.trans hx') (fun _ _ h => h)).rd) hdn hdn (by omega)
   rw [eqB_of rfl] at hsm
   have Hsm := Lib.hid hsm
   have Hmm := Lib.hid hmm
   have hk0 : (0 : Int) ≤ (k : Int) := by omega
   have hk1 : (k : Int) < (n : Int) := by omega
   have hk1' : (k : Int) < (n' : Int) := by omega
   have hkn : ((k : Int)).toNat = k := by omega
   have hwk : IntKind.i64.wrap ((k : Int) + 1) = (k : Int) + 1 := IntWalk.i64_in _ (by omega)
   clear ha hca hn hel hb hcb hn' heq hent hent' q0 q1 q0' q1' hod hod' hne0 hne0' hcc hcc' hmm hxx hdn hsm hedl
   go_wp2_with fail
   refine wp_region_N (fun w' => w'.cell? ⟨bb, off + k * 2, none⟩ = some (.int .i64 (et : Int)) ∧ w'.cell? ⟨bb, off + k * 2 + 1, none⟩ = some (.slice da dn dc) ∧ w'.cell? ⟨bb', off' + k * 2, none⟩ = some (.int .i64 (et : Int)) ∧ w'.cell? ⟨bb', off' + k * 2 + 1, none⟩ = some (.slice da' dn dc')) 25 (by kernel_rfl) ?_
   have hSd : wr.drew.cell? ⟨bb, off + k * 2, none⟩ = some (.int .i64 (et : Int)) ∧ wr.drew.cell? ⟨bb, off + k * 2 + 1, none⟩ = some (.slice da dn dc) ∧ wr.drew.cell? ⟨bb', off' + k * 2, none⟩ = some (.int .i64 (et : Int)) ∧ wr.drew.cell? ⟨bb', off' + k * 2 + 1, none⟩ = some (.slice da' dn dc') := ⟨d0, d1, d0', d1'⟩
   have hmd : wr.drew = w.drewN (mm + 1) := by rw [Hmm.out]; rfl
   have Hmd := Lib.hid hmd
   have xd : Ext NoB wr wr.drew := (Ext.refl _ wr).drew
   generalize wr.drew = wd at hSd xd Hmd ⊢
   clear d0 d1 d0' d1' hmd
   refine wpAnyN_free 0 (v := ?_) (by kernel_rfl) rfl (fun _ _ _ h => h) hSd (by kernel_rfl) ?_ ?_; rotate_left; (focus (intro w; go_simp; try with_reducible rfl)); (try simp only [Act.put]); (try simp only [List.setIfInBounds_toArray, List.set_cons_zero, List.set_cons_succ])
   refine wpAnyN_free 1 (v := ?_) (by kernel_rfl) rfl (fun _ _ _ h => h) hSd (by kernel_rfl) ?_ ?_; rotate_left; (focus (intro w; go_simp; try with_reducible rfl)); (try simp only [Act.put]); (try simp only [List.setIfInBounds_toArray, List.set_cons_zero, List.set_cons_succ])
   refine wpAnyN_free 2 (v := ?_) (by kernel_rfl) rfl (fun _ _ _ h => h) hSd (by kernel_rfl) ?_ ?_; rotate_left; (focus (intro w; go_simp; try with_reducible rfl)); (try simp only [Act.put]); (try simp only [List.setIfInBounds_toArray, List.set_cons_zero, List.set_cons_succ])
   refine wpAnyN_free 3 (v := ?_) (by kernel_rfl) rfl (fun _ _ _ h => h) hSd (by kernel_rfl) ?_ ?_; rotate_left; (focus (intro w; go_simp; try with_reducible rfl)); (try simp only [Act.put]); (try simp only [List.setIfInBounds_toArray, List.set_cons_zero, List.set_cons_succ])
   refine wpAnyN_take 4 (v := ?_) (by kernel_rfl) rfl (fun _ _ _ h => h) hSd (by kernel_rfl) ?_ ?_; rotate_left; (focus (intro w hSw; (try dsimp only at hSw); go_simp; try with_reducible rfl)); (try simp only [Act.put]); (try simp only [List.setIfInBounds_toArray, List.set_cons_zero, List.set_cons_succ])
   refine wpAnyN_free 5 (v := ?_) (by kernel_rfl) rfl (fun _ _ _ h => h) hSd (by kernel_rfl) ?_ ?_; rotate_left; (focus (intro w; go_simp; try with_reducible rfl)); (try simp only [Act.put]); (try simp only [List.setIfInBounds_toArray, List.set_cons_zero, List.set_cons_succ])
   refine wpAnyN_free 6 (v := ?_) (by kernel_rfl) rfl (fun _ _ _ h => h) hSd (by kernel_rfl) ?_ ?_; rotate_left; (focus (intro w; go_simp; try with_reducible rfl)); (try simp only [Act.put]); (try simp only [List.setIfInBounds_toArray, List.set_cons_zero, List.set_cons_succ])
   refine wpAnyN_free 7 (v := ?_) (by kernel_rfl) rfl (fun _ _ _ h => h) hSd (by kernel_rfl) ?_ ?_; rotate_left; (focus (intro w; go_simp; try with_reducible rfl)); (try simp only [Act.put]); (try simp only [List.setIfInBounds_toArray, List.set_cons_zero, List.set_cons_succ])
   refine wpAnyN_free 8 (v := ?_) (by kernel_rfl) rfl (fun _ _ _ h => h) hSd (by kernel_rfl) ?_ ?_; rotate_left; (focus (intro w; go_simp; try with_reducible rfl)); (try simp only [Act.put]); (try simp only [List.setIfInBounds_toArray, List.set_cons_zero, List.set_cons_succ])
   refine wpAnyN_take 9 (v := ?_) (by kernel_rfl) rfl (fun _ _ _ h => h) hSd (by kernel_rfl) ?_ ?_; rotate_left; (focus (intro w hSw; (try dsimp only at hSw); go_simp; try with_reducible rfl)); (try simp only [Act.put]); (try simp only [List.setIfInBounds_toArray, List.set_cons_zero, List.set_cons_succ])
   refine wpAnyN_free 10 (v := ?_) (by kernel_rfl) rfl (fun _ _ _ h => h) hSd (by kernel_rfl) ?_ ?_; rotate_left; (focus (intro w; go_simp; try with_reducible rfl)); (try simp only [Act.put]); (try simp only [List.setIfInBounds_toArray, List.set_cons_zero, List.set_cons_succ])
   refine wpAnyN_free 11 (v := ?_) (by kernel_rfl) rfl (fun _ _ _ h => h) hSd (by kernel_rfl) ?_ ?_; rotate_left; (focus (intro w; go_simp; try with_reducible rfl)); (try simp only [Act.put]); (try simp only [List.setIfInBounds_toArray, List.set_cons_zero, List.set_cons_succ])
   refine wpAnyN_free 12 (v := ?_) (by kernel_rfl) rfl (fun _ _ _ h => h) hSd (by kernel_rfl) ?_ ?_; rotate_left; (focus (intro w; go_simp; try with_reducible rfl)); (try simp only [Act.put]); (try simp only [List.setIfInBounds_toArray, List.set_cons_zero, List.set_cons_succ])
   refine wpAnyN_free 13 (v := ?_) (by kernel_rfl) rfl (fun _ _ _ h => h) hSd (by kernel_rfl) ?_ ?_; rotate_left; (focus (intro w; go_simp; try with_reducible rfl)); (try simp only [Act.put]); (try simp only [List.setIfInBounds_toArray, List.set_cons_zero, List.set_cons_succ])
   refine wpAnyN_free 14 (v := ?_) (by kernel_rfl) rfl (fun _ _ _ h => h) hSd (by kernel_rfl) ?_ ?_; rotate_left; (focus (intro w; go_simp; try with_reducible rfl)); (try simp only [Act.put]); (try simp only [List.setIfInBounds_toArray, List.set_cons_zero, List.set_cons_succ])
   refine wpAnyN_free 15 (v := ?_) (by kernel_rfl) rfl (fun _ _ _ h => h) hSd (by kernel_rfl) ?_ ?_; rotate_left; (focus (intro w; go_simp; try with_reducible rfl)); (try simp only [Act.put]); (try simp only [List.setIfInBounds_toArray, List.set_cons_zero, List.set_cons_succ])
   refine wpAnyN_take 16 (v := ?_) (by kernel_rfl) rfl (fun _ _ _ h => h) hSd (by kernel_rfl) ?_ ?_; rotate_left; (focus (intro w hSw; (try dsimp only at hSw); go_simp; try with_reducible rfl)); (try simp only [Act.put]); (try simp only [List.setIfInBounds_toArray, List.set_cons_zero, List.set_cons_succ])
   refine wpAnyN_free 17 (v := ?_) (by kernel_rfl) rfl (fun _ _ _ h => h) hSd (by kernel_rfl) ?_ ?_; rotate_left; (focus (intro w; go_simp; try with_reducible rfl)); (try simp only [Act.put]); (try simp only [List.setIfInBounds_toArray, List.set_cons_zero, List.set_cons_succ])
   refine wpAnyN_free 18 (v := ?_) (by kernel_rfl) rfl (fun _ _ _ h => h) hSd (by kernel_rfl) ?_ ?_; rotate_left; (focus (intro w; go_simp; try with_reducible rfl)); (try simp only [Act.put]); (try simp only [List.setIfInBounds_toArray, List.set_cons_zero, List.set_cons_succ])
   refine wpAnyN_free 19 (v := ?_) (by kernel_rfl) rfl (fun _ _ _ h => h) hSd (by kernel_rfl) ?_ ?_; rotate_left; (focus (intro w; go_simp; try with_reducible rfl)); (try simp only [Act.put]); (try simp only [List.setIfInBounds_toArray, List.set_cons_zero, List.set_cons_succ])
   refine wpAnyN_free 20 (v := ?_) (by kernel_rfl) rfl (fun _ _ _ h => h) hSd (by kernel_rfl) ?_ ?_; rotate_left; (focus (intro w; go_simp; try with_reducible rfl)); (try simp only [Act.put]); (try simp only [List.setIfInBounds_toArray, List.set_cons_zero, List.set_cons_succ])
   refine wpAnyN_take 21 (v := ?_) (by kernel_rfl) rfl (fun _ _ _ h => h) hSd (by kernel_rfl) ?_ ?_; rotate_left; (focus (intro w hSw; (try dsimp only at hSw); go_simp; try with_reducible rfl)); (try simp only [Act.put]); (try simp only [List.setIfInBounds_toArray, List.set_cons_zero, List.set_cons_succ])
   refine wpAnyN_one 22 (by kernel_rfl) (by simp only [List.getElem?_toArray, List.getElem?_cons_succ, List.getElem?_cons_zero] <;> rfl) (by kernel_rfl) (fun K hK => ?_)
   go_simp
   refine (Hsm.out wd xd).mono ?_; rintro e w3 ⟨rfl, hm3⟩
   have HX3 : Hid (∃ m, w3 = w.drewN m) := Lib.hid (by obtain ⟨m2, rfl⟩ := hm3; exact ⟨mm + 1 + m2, by rw [Hmd.out, World.drewN_drewN]⟩)
   have x3 : Ext NoB wd w3 := by obtain ⟨m2, rfl⟩ := hm3; exact (Ext.refl _ wd).drewN _
   have hS3 : w3.cell? ⟨bb, off + k * 2, none⟩ = some (.int .i64 (et : Int)) ∧ w3.cell? ⟨bb, off + k * 2 + 1, none⟩ = some (.slice da dn dc) ∧ w3.cell? ⟨bb', off' + k * 2, none⟩ = some (.int .i64 (et : Int)) ∧ w3.cell? ⟨bb', off' + k * 2 + 1, none⟩ = some (.slice da' dn dc') := ⟨x3.cell hSd.1 (fun h => h), x3.cell hSd.2.1 (fun h => h), x3.cell hSd.2.2.1 (fun h => h), x3.cell hSd.2.2.2 (fun h => h)⟩
   clear hm3 x3 xd
   go_wp2_with fail
   refine hK.out _ _ hS3 (fun hSd => ?_)
   clear hK K hSd
   have hSd := hS3
   (try simp only [Act.put]); (try simp only [List.setIfInBounds_toArray, List.set_cons_zero, List.set_cons_succ])
   refine wpAnyN_free 23 (v := ?_) (by kernel_rfl) rfl (fun _ _ _ h => h) hSd (by kernel_rfl) ?_ ?_; rotate_left; (focus (intro w; go_simp; try with_reducible rfl)); (try simp only [Act.put]); (try simp only [List.setIfInBounds_toArray, List.set_cons_zero, List.set_cons_succ])
   refine wpAnyN_free 24 (v := ?_) (by kernel_rfl) rfl (fun _ _ _ h => h) hSd (by kernel_rfl) ?_ ?_; rotate_left; (focus (intro w; go_simp; try with_reducible rfl)); (try simp only [Act.put]); (try simp only [List.setIfInBounds_toArray, List.set_cons_zero, List.set_cons_succ])
   refine wpAnyN_tail (by rfl) (by decide) (by kernel_rfl) (by kernel_rfl) ?_
   simp only [List.drop_succ_cons, List.drop_zero]
   clear hSd hS3
   go_wp2_with fail
   refine ⟨⟨k + 1, by go_num, by omega, HX3⟩, ?_⟩
   show q - ((k : Int) + 1).toNat < q - ((k : Int)).toNat
   omega
  ·obtain rfl : k = q := by omega
   go_wp2_with fail
   go_ret
   exact ⟨rfl, HX.out⟩
end Go.Proofs.YtgglbholbkdgfaaGreatDoor
