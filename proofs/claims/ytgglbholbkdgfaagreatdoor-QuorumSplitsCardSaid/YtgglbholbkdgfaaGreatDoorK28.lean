/- Joined texts: B135 B136 B137. Each has its own head. -/
import Derived.Test.YtgglbholbkdgfaaGreatDoorK26
import Derived.Test.YtgglbholbkdgfaaGreatDoorB133
import Derived.Test.YtgglbholbkdgfaaGreatDoorB138
import Derived.Test.YtgglbholbkdgfaaGreatDoorB139
set_option linter.unusedVariables false
set_option linter.unusedSimpArgs false
namespace Go.Proofs.YtgglbholbkdgfaaGreatDoor
open Go.RowKit
structure Led2 (G : PGroup) (old ld : Nat) : Prop where
 len : G.mem.length = 3
 num : G.n = 3
 is : ∀ k, k < 3 → ∃ m, G.mem[k]? = some m ∧ ((k = old ∧ m.up = false) ∨ (k ≠ old ∧ m.up = true ∧ (m.N.role = 2 ↔ k = ld)))
theorem led2_of {G : PGroup} {old ld : Nat} (h : G.led2B old ld = true) : Led2 G old ld := by
 unfold PGroup.led2B at h
 simp only [Bool.and_eq_true, decide_eq_true_eq, List.all_eq_true, List.mem_range] at h
 obtain ⟨⟨h1, h2⟩, h4⟩ := h
 refine ⟨h1, h2, fun k hk => ?_⟩
 have := h4 k hk
 split at this
 ·cases this
 ·next m hm =>
  simp only [Bool.and_eq_true, beq_iff_eq] at this
  obtain ⟨a1, a2⟩ := this
  refine ⟨m, hm, ?_⟩
  by_cases ho : k = old
  ·refine .inl ⟨ho, ?_⟩
   rw [a1, ho]
   simp
  ·refine .inr ⟨ho, ?_, ?_⟩
   ·rw [a1]; simp [ho]
   ·have hu : m.up = true := by rw [a1]; simp [ho]
    simp only [hu, Bool.not_true, Bool.false_or, beq_iff_eq] at a2
    by_cases h : k = ld
    ·simp only [h, decide_true, decide_eq_true_eq] at a2
     exact ⟨fun _ => h, fun _ => a2⟩
    ·simp only [h, decide_false, decide_eq_false_iff_not] at a2
     exact ⟨fun h' => absurd h' a2, fun h' => absurd h' h⟩
structure Have (G : PGroup) (n was : Nat) (tok : List UInt8) : Prop where
 len : G.mem.length = n
 num : G.n = n
 is : ∀ k, k < n → ∃ m, G.mem[k]? = some m ∧ was < m.took.length ∧ m.took.length ≤ 1000 ∧ ∃ e ∈ m.took, e.2 = tok
theorem have_of {G : PGroup} {n was : Nat} {tok : List UInt8} (h : G.haveB n was tok = true) : Have G n was tok := by
 unfold PGroup.haveB at h
 simp only [Bool.and_eq_true, decide_eq_true_eq, List.all_eq_true, List.mem_range] at h
 obtain ⟨⟨h1, h2⟩, h4⟩ := h
 refine ⟨h1, h2, fun k hk => ?_⟩
 have := h4 k hk
 split at this
 ·cases this
 ·next m hm =>
  simp only [Bool.and_eq_true, decide_eq_true_eq, List.any_eq_true, beq_iff_eq] at this
  exact ⟨m, hm, this.1.1, this.1.2, this.2⟩
structure SplitRun (old ld q : Nat) (G Gc G2 Gp : PGroup) : Prop where
 run : PGroup.settle 200 (PGroup.newG 3) = some G
 led : Led G 3 old
 took : G.tookN old ≤ 1000
 cr : G.crash old = some Gc
 run2 : PGroup.settle 120 Gc = some G2
 led2 : Led2 G2 old ld
 lt : ld < 3
 ne : old ≠ ld
 prop : G2.propose ld [2] = some ((q, 0), Gp)
def SplitRest (old t : Nat) (G Gp : PGroup) : Prop := ∃ Ga Gb Ge, PGroup.settle (20 + t) Gp = some Ga ∧ Ga.start old = some Gb ∧ PGroup.settle 120 Gb = some Ge ∧ Have Ge 3 (G.tookN old) [2]
theorem split_of {old ld lo cnt : Nat} (h : splitB old ld lo cnt = true) : ∃ q G Gc G2 Gp, SplitRun old ld q G Gc G2 Gp ∧ ∀ t, lo ≤ t → t ≤ lo + cnt → SplitRest old t G Gp := by
 unfold splitB at h
 simp only [Bool.and_eq_true, decide_eq_true_eq] at h
 obtain ⟨⟨hlt, hne⟩, h⟩ := h
 split at h
 ·cases h
 ·next G hG =>
  rw [settleF_eq] at hG
  rw [Bool.and_eq_true, Bool.and_eq_true, decide_eq_true_eq] at h
  obtain ⟨⟨h1, h2⟩, h⟩ := h
  split at h
  ·cases h
  ·next Gc hc =>
   split at h
   ·cases h
   ·next G2 h3 =>
    rw [settleF_eq] at h3
    rw [Bool.and_eq_true] at h
    obtain ⟨h4, h⟩ := h
    split at h
    ·cases h
    ·next q Gp hp =>
     obtain ⟨q, c⟩ := q
     rw [Bool.and_eq_true, decide_eq_true_eq] at h
     obtain ⟨hc0, h⟩ := h
     dsimp only at hc0
     subst hc0
     split at h
     ·cases h
     ·next Ga h5 =>
      rw [settleF_eq] at h5
      rw [staysF_eq] at h
      refine ⟨q, G, Gc, G2, Gp, ⟨hG, led_of h1, h2, hc, h3, led2_of h4, hlt, hne, hp⟩, fun t ht0 ht => ?_⟩
      obtain ⟨Gt, h6, h7⟩ := stays_all _ cnt Ga h (t - lo) (by omega)
      unfold splitRest at h7
      split at h7
      ·cases h7
      ·next Gb h8 =>
       split at h7
       ·cases h7
       ·next Ge h9 =>
        rw [settleF_eq] at h9
        refine ⟨Gt, Gb, Ge, ?_, h8, h9, have_of h7⟩
        rw [show 20 + t = (20 + lo) + (t - lo) by omega, settle_add, h5]
        exact h6
theorem split_same {old ld q q' : Nat} {G Gc G2 Gp G' Gc' G2' Gp' : PGroup} (h : SplitRun old ld q G Gc G2 Gp) (h' : SplitRun old ld q' G' Gc' G2' Gp') : G = G' ∧ Gp = Gp' := by
 have e1 : G = G' := Option.some.inj (h.run.symm.trans h'.run)
 subst e1
 have e2 : Gc = Gc' := Option.some.inj (h.cr.symm.trans h'.cr)
 subst e2
 have e3 : G2 = G2' := Option.some.inj (h.run2.symm.trans h'.run2)
 subst e3
 have e4 := Option.some.inj (h.prop.symm.trans h'.prop)
 exact ⟨rfl, (Prod.mk.inj e4).2⟩
theorem split_all : ∃ q G Gc G2 Gp, SplitRun 0 2 q G Gc G2 Gp ∧ ∀ t, t ≤ 60 → SplitRest 0 t G Gp := by
 obtain ⟨q, G, Gc, G2, Gp, h, r0⟩ := split_of split_yes0
 have go : ∀ {lo cnt : Nat}, splitB 0 2 lo cnt = true → ∀ t, lo ≤ t → t ≤ lo + cnt → SplitRest 0 t G Gp := fun hb => by
  obtain ⟨q', G', Gc', G2', Gp', h', r'⟩ := split_of hb
  obtain ⟨rfl, rfl⟩ := split_same h h'
  exact r'
 refine ⟨q, G, Gc, G2, Gp, h, fun t ht => ?_⟩
 by_cases h0 : t < 10
 ·exact r0 t (by omega) (by omega)
 by_cases h1 : t < 20
 ·exact go split_yes1 t (by omega) (by omega)
 by_cases h2 : t < 30
 ·exact go split_yes2 t (by omega) (by omega)
 by_cases h3 : t < 40
 ·exact go split_yes3 t (by omega) (by omega)
 by_cases h4 : t < 50
 ·exact go split_yes4 t (by omega) (by omega)
 by_cases h5 : t < 60
 ·exact go split_yes5 t (by omega) (by omega)
 ·exact go split_yes6 t (by omega) (by omega)
def anyB (l : List Ent) (c : List UInt8) : Bool := l.any (fun e => eqB e.2 c)
theorem anyB_snoc (l : List Ent) (e : Ent) (c : List UInt8) : anyB (l ++ [e]) c = (anyB l c || eqB e.2 c) := by unfold anyB; simp [List.any_append]
theorem anyB_mem {l : List Ent} {e : Ent} {c : List UInt8} (h : e ∈ l) (hc : e.2 = c) : anyB l c = true := by
 unfold anyB
 rw [List.any_eq_true]
 exact ⟨e, h, eqB_of hc⟩
theorem anyB_zero (l : List Ent) (c : List UInt8) : anyB (l.take 0) c = false := rfl
end Go.Proofs.YtgglbholbkdgfaaGreatDoor
namespace Go.Proofs.YtgglbholbkdgfaaGreatDoor
open Go.RowKit
theorem tok1_any (b : List UInt8) {x : List UInt8} (h : x ≠ []) : tok1 b x = b := if_neg h
set_option maxRecDepth 100000 in
set_option maxHeartbeats 8000000 in
theorem split_walk (b c : List UInt8) (pa pb : Option Addr) (pc qc bn cn : Nat) (ticks : Int) (old ld q : Nat) (G Gc G2 Gp : PGroup) (hR : SplitRun old ld q G Gc G2 Gp) (hrest : ∀ t, t ≤ 60 → SplitRest old t G Gp) (w : World)
  (hb : CellsB w pa b) (hbn : b.length = bn) (hc : RdB w (.slice pb cn qc) c) (hcn : c.length = cn) (h1 : 1 ≤ bn) (h2 : 1 ≤ cn) (h3 : bn + cn ≤ 1000) (ht0 : 0 ≤ ticks) (ht1 : ticks ≤ 60) (hne : b ≠ c) :
  Calls Tryz.prog 12 #[.slice pa bn pc, .slice pb cn qc, .int .i64 ticks] w fun e w' => e = .returned (.bool true) ∧ Ext NoB w w' := by
 have hφ := tok1_ok (b := c) (by omega)
 have hcC : CellsB w pb c := hc.cells
 have Hs0 := Lib.hid (same17_any pa pb pc qc bn cn b c w hb hcC hbn hcn (by omega))
 rw [eqB_not hne] at Hs0
 have Hb := Lib.hid (And.intro hφ (And.intro hc (And.intro (rd_below hc (by omega)) (And.intro hcC hcn))))
 obtain ⟨t, rfl⟩ : ∃ t : Nat, ticks = (t : Int) := ⟨ticks.toNat, by omega⟩
 obtain ⟨Ga, Gb, Ge, r1, r2, r3, r4⟩ := hrest t (by omega)
 have Hnew := Lib.hid (fun (w' : World) => NewG_any (φ := tok1 c) 3 (by omega) w')
 have hkeep := newG_keep 3
 obtain ⟨G0, hG0⟩ : ∃ G0, PGroup.newG 3 = G0 := ⟨_, rfl⟩
 have hrun := hR.run
 rw [hG0] at Hnew hkeep hrun
 have k1 := crash_keep hR.cr
 have k2 := settle_keep _ _ _ hR.run2
 have k3 := propose_keep hR.prop
 have k4 := settle_keep _ _ _ r1
 have k5 := start_keep r2
 have a0 : G0.mem.length = G0.n := by rw [hkeep.1, hkeep.2]
 have aG : G.mem.length = G.n := by rw [hR.led.len, hR.led.num]
 have aGc : Gc.mem.length = Gc.n := by rw [k1.1, k1.2]; exact aG
 have aG2 : G2.mem.length = G2.n := by rw [k2.1, k2.2]; exact aGc
 have aGp : Gp.mem.length = Gp.n := by rw [k3.1, k3.2]; exact aG2
 have aGa : Ga.mem.length = Ga.n := by rw [k4.1, k4.2]; exact aGp
 have aGb : Gb.mem.length = Gb.n := by rw [k5.1, k5.2]; exact aGa
 have aGe : Ge.mem.length = Ge.n := by rw [r4.len, r4.num]
 have H := Lib.hid (And.intro hR (And.intro hrun (And.intro r1 (And.intro r2 (And.intro r3 r4)))))
 have HA := Lib.hid (And.intro a0 (And.intro aG (And.intro aGc (And.intro aG2 (And.intro aGp (And.intro aGa (And.intro aGb aGe)))))))
 have hzS := fun (w : World) => (show (zeroValue 68).run Tryz.prog w = .ok (.agg #[.int .i64 0, .int .i64 0, .int .i64 0, .int .i64 0, .int .i64 0, .int .i64 0, .int .u64 0, .int .u32 0, .slice none 0 0]) w by kernel_rfl)
 have g1 : ¬ ((bn : Int) < 1) := by omega
 have g2 : ¬ ((cn : Int) < 1) := by omega
 have g3 : ¬ ((1000 : Int) < (bn : Int) + (cn : Int)) := by omega
 have g3' : IntKind.i64.wrap ((bn : Int) + (cn : Int)) = (bn : Int) + (cn : Int) := IntWalk.i64_in _ (by omega)
 have g4 : ¬ ((t : Int) < 0) := by omega
 have g5 : ¬ ((60 : Int) < (t : Int)) := by omega
 have g6 : IntKind.i64.wrap (20 + (t : Int)) = 20 + (t : Int) := IntWalk.i64_in _ (by omega)
 have hlt' : old < 3 := hR.led.lt
 have hld : ld < 3 := hR.lt
 have hon : ((ld : Int) == (old : Int)) = false := beq_eq_false_iff_ne.2 (by have := hR.ne; omega)
 clear hφ hb hbn hc hcn hR hrest hkeep hrun r1 r2 r3 r4 k1 k2 k3 k4 k5 a0 aG aGc aG2 aGp aGa aGb aGe hG0 ht0 ht1 hne hcC
 go_enter Tryz.func12, Tryz.ntmps12
 go_wp2_with fail
 refine Hs0.out.mono ?_; rintro e w0 ⟨rfl, hm0⟩
 have Hx0 : Hid (Ext NoB w w0) := Lib.hid (by obtain ⟨mm, rfl⟩ := hm0; exact (Ext.refl _ w).drewN _)
 clear hm0 Hs0
 go_wp2_with fail
 refine (Hnew.out w0).mono ?_; rintro e w1 ⟨g, rfl, hN⟩
 have Hset := Lib.hid (settle_new (k := 200) Hb.out.1 hN (by omega) HA.out.1 H.out.2.1)
 clear hN Hnew
 go_wp2_with fail
 refine Hset.out.mono ?_; rintro e w2 ⟨rfl, hN⟩
 have HN := Lib.hid hN
 clear hN Hset
 go_wp2_with fail
 go_loopw [9, 10, 11, 12, 13] (fun l i _ _ _ wr => ∃ k : Nat, i = .int .i64 (k : Int) ∧ k ≤ 3 ∧ l = .int .i64 (if old < k then (old : Int) else -1) ∧ Hid (GNew w0 wr g (tok1 c) G)) (fun _ i _ _ _ _ => 3 - (intOf i).toNat)
 case atStart => exact ⟨0, rfl, by omega, by rw [if_neg (by omega)], HN⟩
 case round =>
  obtain ⟨k, rfl, hk, rfl, HG⟩ := hrel
  by_cases hlt : k < 3
  ·obtain ⟨m, hmk, hup, hrole⟩ := H.out.1.led.is k hlt
   have Hs := Lib.hid (state_new HG.out HA.out.2.1 hmk hup)
   have hk3 : (k : Int) < 3 := by omega
   have hwk : IntKind.i64.wrap ((k : Int) + 1) = (k : Int) + 1 := IntWalk.i64_in _ (by omega)
   obtain ⟨ro, hro⟩ : ∃ ro, m.N.role = ro := ⟨_, rfl⟩
   obtain ⟨q0, hq0⟩ : ∃ q0 : Int, (if old < k then (old : Int) else -1) = q0 := ⟨_, rfl⟩
   rw [hro] at Hs hrole
   rw [hq0]
   have Hq0 := Lib.hid hq0
   clear hmk hup hro hq0
   by_cases hkl : k = old
   ·have hb2 : ((ro : Int) == 2) = true := by rw [hrole.2 hkl]; rfl
    have Hkl := Lib.hid hkl
    clear hkl hrole
    go_wp2_with fail
    refine Hs.out.mono ?_; rintro e w3 ⟨rfl, hst⟩
    have Hst3 := Lib.hid hst
    clear hst
    go_wp2_with fail
    go_roundw
    case rel => exact ⟨k + 1, by go_num, by omega, by rw [if_pos (by have := Hkl.out; omega), Hkl.out], Hst3⟩
    case measure => simp [intOf]; omega
   ·have hb2 : ((ro : Int) == 2) = false := beq_eq_false_iff_ne.2 (fun h => hkl (hrole.1 (by omega)))
    have Hkl := Lib.hid hkl
    clear hkl hrole
    go_wp2_with fail
    refine Hs.out.mono ?_; rintro e w3 ⟨rfl, hst⟩
    have Hst3 := Lib.hid hst
    clear hst
    go_wp2_with fail
    go_roundw
    case rel =>
     refine ⟨k + 1, by go_num, by omega, ?_, Hst3⟩
     have h1 := Hq0.out
     have h2 := Hkl.out
     by_cases h : old < k
     ·rw [if_pos (by omega), ← h1, if_pos h]
     ·rw [if_neg (by omega), ← h1, if_neg h]
    case measure => simp [intOf]; omega
  ·obtain rfl : k = 3 := by omega
   rw [if_pos hlt', show ((3 : Nat) : Int) = (3 : Int) from rfl]
   have ho0 : ¬ ((old : Int) < 0) := by omega
   obtain ⟨m, hm⟩ : ∃ m, G.mem[old]? = some m := ⟨_, List.getElem?_eq_getElem (by rw [H.out.1.led.len]; exact hlt')⟩
   have htk := took_get hm
   have htl := H.out.1.took
   have Htaken := Lib.hid (taken_new Hb.out.1 HG.out HA.out.2.1 hm (by omega))
   have Hm := Lib.hid (And.intro htk (show m.took.length ≤ 1000 by omega))
   clear hm htk htl
   go_wp2_with fail
   refine Htaken.out.mono ?_; rintro e w3 ⟨v, rfl, hE, hF, hX, hst⟩
   obtain ⟨ms, hms, hown, -⟩ := hE
   have hml := hms.len
   rw [List.length_map] at hml
   obtain ⟨va, vn, vc, rfl, hvl, _⟩ := hown.rd
   have Hvn : Hid (vn = G.tookN old) := Lib.hid (by have := Hm.out; omega)
   have Hcr := Lib.hid (crash_new hst HA.out.2.1 H.out.1.cr 0 (by omega))
   clear hms hown hml hvl hst hF hX
   go_wp2_with fail
   refine Hcr.out.mono ?_; rintro e w4 ⟨rfl, hst⟩
   have Hset := Lib.hid (settle_new (k := 120) Hb.out.1 hst (by omega) HA.out.2.2.1 H.out.1.run2)
   clear hst
   go_wp2_with fail
   refine Hset.out.mono ?_; rintro e w5 ⟨rfl, hst⟩
   have HN5 := Lib.hid hst
   clear hst
   go_wp2_with fail
   go_loopw [15, 16, 17, 18, 19] (fun l i _ _ _ wr => ∃ k : Nat, i = .int .i64 (k : Int) ∧ k ≤ 3 ∧ l = .int .i64 (if ld < k then (ld : Int) else -1) ∧ Hid (GNew w0 wr g (tok1 c) G2)) (fun _ i _ _ _ _ => 3 - (intOf i).toNat)
   case atStart => exact ⟨0, rfl, by omega, by rw [if_neg (by omega)], HN5⟩
   case round =>
    obtain ⟨k, rfl, hk, rfl, HG2⟩ := hrel
    by_cases hlt2 : k < 3
    ·obtain ⟨m, hmk, hcase⟩ := H.out.1.led2.is k hlt2
     have hk3 : (k : Int) < 3 := by omega
     have hwk : IntKind.i64.wrap ((k : Int) + 1) = (k : Int) + 1 := IntWalk.i64_in _ (by omega)
     obtain ⟨q0, hq0⟩ : ∃ q0 : Int, (if ld < k then (ld : Int) else -1) = q0 := ⟨_, rfl⟩
     rw [hq0]
     have Hq0 := Lib.hid hq0
     have hne := H.out.1.ne
     have Hstay : k ≠ ld → Hid (q0 = (if ld < k + 1 then (ld : Int) else -1)) := fun h2 => Lib.hid (by
      have h1 := Hq0.out
      by_cases h : ld < k
      ·rw [if_pos (by omega), ← h1, if_pos h]
      ·rw [if_neg (by omega), ← h1, if_neg h])
     clear hq0
     rcases hcase with ⟨hko, hdn⟩ | ⟨hko, hup, hrole⟩
     ·have Hs := Lib.hid (down_new HG2.out HA.out.2.2.2.1 hmk hdn)
      have Hst := Hstay (by omega)
      clear hko hdn hmk Hstay hne
      go_wp2_with fail
      refine Hs.out.mono ?_; rintro e w6 ⟨rfl, hst⟩
      have Hst3 := Lib.hid hst
      clear hst
      go_wp2_with fail
      go_roundw
      case rel => exact ⟨k + 1, by go_num, by omega, by rw [← Hst.out], Hst3⟩
      case measure => simp [intOf]; omega
     ·have Hs := Lib.hid (state_new HG2.out HA.out.2.2.2.1 hmk hup)
      obtain ⟨ro, hro⟩ : ∃ ro, m.N.role = ro := ⟨_, rfl⟩
      rw [hro] at Hs hrole
      clear hmk hup hro hko hne
      by_cases hkl : k = ld
      ·have hb2 : ((ro : Int) == 2) = true := by rw [hrole.2 hkl]; rfl
       have Hkl := Lib.hid hkl
       clear hkl hrole Hstay
       go_wp2_with fail
       refine Hs.out.mono ?_; rintro e w6 ⟨rfl, hst⟩
       have Hst3 := Lib.hid hst
       clear hst
       go_wp2_with fail
       go_roundw
       case rel => exact ⟨k + 1, by go_num, by omega, by rw [if_pos (by have := Hkl.out; omega), Hkl.out], Hst3⟩
       case measure => simp [intOf]; omega
      ·have hb2 : ((ro : Int) == 2) = false := beq_eq_false_iff_ne.2 (fun h => hkl (hrole.1 (by omega)))
       have Hst := Hstay hkl
       clear hkl hrole Hstay
       go_wp2_with fail
       refine Hs.out.mono ?_; rintro e w6 ⟨rfl, hst⟩
       have Hst3 := Lib.hid hst
       clear hst
       go_wp2_with fail
       go_roundw
       case rel => exact ⟨k + 1, by go_num, by omega, by rw [← Hst.out], Hst3⟩
       case measure => simp [intOf]; omega
    ·obtain rfl : k = 3 := by omega
     rw [if_pos hld, show ((3 : Nat) : Int) = (3 : Int) from rfl]
     have hl0 : ¬ ((ld : Int) < 0) := by omega
     have Hpr := Lib.hid (propose_new (pn := cn) Hb.out.1 HG2.out HA.out.2.2.2.1 H.out.1.prop (by rw [tok1_any c (by decide)]; exact Rd.no Hb.out.2.1 Hx0.out) (fun b hb => Nat.lt_of_lt_of_le (Hb.out.2.2.1 b hb) Hx0.out.size) h2 (by rw [tok1_any c (by decide)]; exact Hb.out.2.2.2.2))
     go_wp2_with fail
     refine Hpr.out.mono ?_; rintro e w6 ⟨rfl, hst⟩
     have Hset2 := Lib.hid (settle_new (k := 20 + t) Hb.out.1 hst (by omega) HA.out.2.2.2.2.1 H.out.2.2.1)
     rw [show (((20 + t : Nat)) : Int) = 20 + (t : Int) by omega] at Hset2
     clear hst
     go_wp2_with fail
     refine Hset2.out.mono ?_; rintro e w7 ⟨rfl, hst⟩
     have Hsta := Lib.hid (start_new Hb.out.1 hst HA.out.2.2.2.2.2.1 H.out.2.2.2.1)
     clear hst
     go_wp2_with fail
     refine Hsta.out.mono ?_; rintro e w8 ⟨rfl, hst⟩
     have Hset3 := Lib.hid (settle_new (k := 120) Hb.out.1 hst (by omega) HA.out.2.2.2.2.2.2.1 H.out.2.2.2.2.1)
     clear hst
     go_wp2_with fail
     refine Hset3.out.mono ?_; rintro e w9 ⟨rfl, hst⟩
     have HN9 := Lib.hid hst
     clear hst
     go_wp2_with fail
     go_loopw [22, 23, 24, 25] (fun i _ _ _ wr => ∃ k : Nat, i = .int .i64 (k : Int) ∧ k ≤ 3 ∧ Hid (GNew w0 wr g (tok1 c) Ge)) (fun i _ _ _ _ => 3 - (intOf i).toNat)
     case atStart => exact ⟨0, rfl, by omega, HN9⟩
     case round =>
      obtain ⟨k, rfl, hk, HGe⟩ := hrel
      by_cases hlt3 : k < 3
      ·obtain ⟨m, hmk, hwas, hmax, e0, he0, htok⟩ := H.out.2.2.2.2.2.is k hlt3
       have hk3 : (k : Int) < 3 := by omega
       have hwk : IntKind.i64.wrap ((k : Int) + 1) = (k : Int) + 1 := IntWalk.i64_in _ (by omega)
       have Htk := Lib.hid (taken_new Hb.out.1 HGe.out HA.out.2.2.2.2.2.2.2 hmk (by omega))
       obtain ⟨es, hes⟩ : ∃ es, m.took.map (subE (tok1 c)) = es := ⟨_, rfl⟩
       rw [hes] at Htk
       have hel : es.length = m.took.length := by rw [← hes, List.length_map]
       have hany : anyB es c = true := by
        rw [← hes]
        exact anyB_mem (List.mem_map.2 ⟨e0, he0, rfl⟩) (by show tok1 c e0.2 = c; rw [htok]; exact tok1_any c (by decide))
       have hel2 : ∀ e ∈ es, e.2.length ≤ 3000 := by
        intro e he
        rw [← hes] at he
        obtain ⟨y, _, rfl⟩ := List.mem_map.1 he
        exact Hb.out.1.len y.2
       have Hes := Lib.hid (And.intro hel (And.intro hany (And.intro hel2 (show vn < es.length ∧ es.length ≤ 1000 by have := Hvn.out; omega))))
       clear hmk hwas hmax he0 htok hes hel hany hel2
       go_wp2_with fail
       refine Htk.out.mono ?_; rintro e w10 ⟨v10, rfl, hE, hF, hX, hst⟩
       obtain ⟨ms10, hms10, hown10, -⟩ := hE
       have hml10 := hms10.len
       obtain ⟨va2, vn2, vc2, rfl, hvl2, _, _, _, hcl⟩ := hown10.rd
       obtain rfl : vn2 = es.length := by omega
       obtain ⟨len, hlen⟩ : ∃ len, es.length = len := ⟨_, rfl⟩
       rw [hlen] at Hes ⊢
       have H10 := Lib.hid (And.intro hms10 (And.intro hcl (And.intro hlen hst)))
       have hlen1 : len ≤ 1000 := Hes.out.2.2.2.2
       clear hms10 hown10 hml10 hvl2 hcl hF hX hst hlen
       go_wp2_with fail
       go_loopw [24, 25] (fun hv i wr => ∃ j : Nat, i = .int .i64 (j : Int) ∧ j ≤ len ∧ hv = .bool (anyB (es.take j) c) ∧ Hid (∃ mm, wr = w10.drewN mm)) (fun _ i _ => len - (intOf i).toNat)
       case atStart => exact ⟨0, rfl, by omega, by rw [anyB_zero], Lib.hid ⟨0, rfl⟩⟩
       case round =>
        obtain ⟨j, rfl, hj, rfl, HX⟩ := hrel
        by_cases hjl : j < len
        ·have hj0 : (0 : Int) ≤ (j : Int) := by omega
         have hj1 : (j : Int) < (len : Int) := by omega
         have hjn : ((j : Int)).toNat = j := by omega
         have hwj : IntKind.i64.wrap ((j : Int) + 1) = (j : Int) + 1 := IntWalk.i64_in _ (by omega)
         obtain ⟨⟨et, ed⟩, hent⟩ : ∃ e, es[j]? = some e := ⟨_, List.getElem?_eq_getElem (by have := H10.out.2.2.1; omega)⟩
         have hsn := anyB_snoc (es.take j) (et, ed) c
         rw [← take_succ_some hent] at hsn
         obtain ⟨av, hav⟩ : ∃ av, anyB (es.take j) c = av := ⟨_, rfl⟩
         rw [hav] at hsn ⊢
         cases av with
         | true =>
          have Hsn := Lib.hid hsn
          clear hsn hav hent
          go_wp2_with fail
          go_roundw
          case rel => exact ⟨j + 1, by go_num, by omega, by rw [Hsn.out]; rfl, HX⟩
          case measure => simp [intOf]; omega
         | false =>
          obtain ⟨hms10, hcl, hlen, hst⟩ := H10.out
          obtain ⟨dv, q0, q1, hod⟩ := hms10.get j _ hent
          have hne0 : ms10.flatten ≠ [] := fun e => by rw [e] at q0; cases q0
          obtain ⟨bb, off, rfl, hcc⟩ := hcl hne0
          obtain ⟨mm, hmm⟩ := HX.out
          have hxx : Ext NoB w10 wr := by rw [hmm]; exact (Ext.refl _ w10).drewN _
          have d1 := hxx.cell (hcc _ _ q1) (fun h => h)
          rw [← Nat.add_assoc] at d1
          obtain ⟨da, dc, rfl, _⟩ := RdB.shape (l := ed) hod.rd
          obtain ⟨dn, hdn⟩ : ∃ dn, ed.length = dn := ⟨_, rfl⟩
          have hsm := fun (w' : World) (hx' : Ext NoB wr w') => same17_any da pb dc qc dn cn ed c w' (RdB.cells (l := ed) (hod.ext (hxx.trans hx') (fun _ _ h => h)).rd) (Hb.out.2.2.2.1.no (Hx0.out.trans (hst.ext.trans (hxx.trans hx')))) hdn Hb.out.2.2.2.2 (by have := Hes.out.2.2.1 _ (List.mem_of_getElem? hent); dsimp only at this; omega)
          rw [hdn] at d1
          have Hsm := Lib.hid hsm
          have Hsn := Lib.hid hsn
          have Hmm := Lib.hid hmm
          clear hsm hsn hav hent hms10 hcl hlen hst q0 q1 hod hne0 hcc hmm hxx hdn
          go_wp2_with fail
          refine (Hsm.out _ (Ext.refl _ _)).mono ?_; rintro e w11 ⟨rfl, hm11⟩
          have HX11 : Hid (∃ mm, w11 = w10.drewN mm) := Lib.hid (by obtain ⟨m2, rfl⟩ := hm11; exact ⟨mm + m2, by rw [Hmm.out, World.drewN_drewN]⟩)
          clear hm11
          go_wp2_with fail
          go_roundw
          case rel => exact ⟨j + 1, by go_num, by omega, by rw [Hsn.out, Bool.false_or], HX11⟩
          case measure => simp [intOf]; omega
        ·obtain rfl : j = len := by omega
         have hfin : anyB (es.take j) c = true := by rw [List.take_of_length_le (by have := H10.out.2.2.1; omega)]; exact Hes.out.2.1
         rw [hfin]
         have hvlt : ¬ ((j : Int) ≤ (vn : Int)) := by have := Hes.out.2.2.2.1; omega
         have HG11 : Hid (GNew w0 wr g (tok1 c) Ge) := Lib.hid (by obtain ⟨mm, hmm⟩ := HX.out; exact H10.out.2.2.2.no (by rw [hmm]; exact (Ext.refl _ w10).drewN _))
         clear hfin
         go_wp2_with fail
         go_roundw
         case rel => exact ⟨k + 1, by go_num, by omega, HG11⟩
         case measure => simp [intOf]; omega
      ·obtain rfl : k = 3 := by omega
       go_wp2_with fail
       refine (known17_any _).mono ?_; rintro e w12 ⟨rfl, x12⟩
       have Hx12 := Lib.hid x12
       clear x12
       go_wp2_with fail
       go_ret
       exact ⟨rfl, (Hx0.out.trans HGe.out.ext).trans Hx12.out⟩
end Go.Proofs.YtgglbholbkdgfaaGreatDoor
namespace Go.Proofs.YtgglbholbkdgfaaGreatDoor
open Go.RowKit
set_option maxRecDepth 100000 in
set_option maxHeartbeats 4000000 in
theorem split_light (pa pb : Option Addr) (pc qc bn cn : Nat) (ticks : Int) (w : World) (hbd : bn ≤ 140737488355328) (hcd : cn ≤ 140737488355328) (h : bn < 1 ∨ cn < 1 ∨ 1000 < bn + cn ∨ ticks < 0 ∨ 60 < ticks) :
  Calls Tryz.prog 12 #[.slice pa bn pc, .slice pb cn qc, .int .i64 ticks] w fun e w' => e = .returned (.bool true) ∧ Ext NoB w w' := by
 have Hk := Lib.hid (known17_any w)
 have g3' : IntKind.i64.wrap ((bn : Int) + (cn : Int)) = (bn : Int) + (cn : Int) := IntWalk.i64_in _ (by omega)
 by_cases h0 : bn < 1
 ·have k0 : ((bn : Int) < 1) := by omega
  clear h h0
  go_enter Tryz.func12, Tryz.ntmps12
  go_wp2_with fail
  refine Hk.out.mono ?_; rintro e w7 ⟨rfl, x7⟩
  have Hx7 := Lib.hid x7
  clear x7
  go_wp2_with fail
  go_ret
  exact ⟨rfl, Hx7.out⟩
 ·have k0 : ¬ ((bn : Int) < 1) := by omega
  by_cases h1 : cn < 1
  ·have k1 : ((cn : Int) < 1) := by omega
   clear h h0 h1
   go_enter Tryz.func12, Tryz.ntmps12
   go_wp2_with fail
   refine Hk.out.mono ?_; rintro e w7 ⟨rfl, x7⟩
   have Hx7 := Lib.hid x7
   clear x7
   go_wp2_with fail
   go_ret
   exact ⟨rfl, Hx7.out⟩
  ·have k1 : ¬ ((cn : Int) < 1) := by omega
   by_cases h2 : 1000 < bn + cn
   ·have k2 : ((1000 : Int) < (bn : Int) + (cn : Int)) := by omega
    clear h h0 h1 h2
    go_enter Tryz.func12, Tryz.ntmps12
    go_wp2_with fail
    refine Hk.out.mono ?_; rintro e w7 ⟨rfl, x7⟩
    have Hx7 := Lib.hid x7
    clear x7
    go_wp2_with fail
    go_ret
    exact ⟨rfl, Hx7.out⟩
   ·have k2 : ¬ ((1000 : Int) < (bn : Int) + (cn : Int)) := by omega
    by_cases h3 : ticks < 0
    ·have k3 : (ticks < 0) := by omega
     clear h h0 h1 h2
     go_enter Tryz.func12, Tryz.ntmps12
     go_wp2_with fail
     refine Hk.out.mono ?_; rintro e w7 ⟨rfl, x7⟩
     have Hx7 := Lib.hid x7
     clear x7
     go_wp2_with fail
     go_ret
     exact ⟨rfl, Hx7.out⟩
    ·have k3 : ¬ (ticks < 0) := by omega
     have k4 : 60 < ticks := by omega
     clear h h0 h1 h2
     go_enter Tryz.func12, Tryz.ntmps12
     go_wp2_with fail
     refine Hk.out.mono ?_; rintro e w7 ⟨rfl, x7⟩
     have Hx7 := Lib.hid x7
     clear x7
     go_wp2_with fail
     go_ret
     exact ⟨rfl, Hx7.out⟩
set_option maxRecDepth 100000 in
set_option maxHeartbeats 4000000 in
theorem split_same_walk (b : List UInt8) (pa pb : Option Addr) (pc qc bn cn : Nat) (ticks : Int) (w : World) (hb : CellsB w pa b) (hbn : b.length = bn) (hc : CellsB w pb b) (hcn : b.length = cn) (h1 : 1 ≤ bn) (h2 : 1 ≤ cn) (h3 : bn + cn ≤ 1000) (g4 : 0 ≤ ticks) (g5 : ticks ≤ 60) :
  Calls Tryz.prog 12 #[.slice pa bn pc, .slice pb cn qc, .int .i64 ticks] w fun e w' => e = .returned (.bool true) ∧ Ext NoB w w' := by
 have Hk := Lib.hid (fun (w' : World) => known17_any w')
 have Hs0 := Lib.hid (same17_any pa pb pc qc bn cn b b w hb hc hbn hcn (by omega))
 rw [eqB_of rfl] at Hs0
 have g3' : IntKind.i64.wrap ((bn : Int) + (cn : Int)) = (bn : Int) + (cn : Int) := IntWalk.i64_in _ (by omega)
 have k0 : ¬ ((bn : Int) < 1) := by omega
 have k1 : ¬ ((cn : Int) < 1) := by omega
 have k2 : ¬ ((1000 : Int) < (bn : Int) + (cn : Int)) := by omega
 have k3 : ¬ (ticks < 0) := by omega
 have k4 : ¬ (60 < ticks) := by omega
 clear hb hbn hc hcn
 go_enter Tryz.func12, Tryz.ntmps12
 go_wp2_with fail
 refine Hs0.out.mono ?_; rintro e w0 ⟨rfl, hm0⟩
 have Hx0 : Hid (Ext NoB w w0) := Lib.hid (by obtain ⟨mm, rfl⟩ := hm0; exact (Ext.refl _ w).drewN _)
 clear hm0
 go_wp2_with fail
 refine (Hk.out w0).mono ?_; rintro e w7 ⟨rfl, x7⟩
 have Hx7 := Lib.hid (Hx0.out.trans x7)
 clear x7
 go_wp2_with fail
 go_ret
 exact ⟨rfl, Hx7.out⟩
theorem split_any (b c : List UInt8) (pa pb : Option Addr) (pc qc bn cn : Nat) (ticks : Int) (w : World) (hb : CellsB w pa b) (hbn : b.length = bn) (hc : 1 ≤ cn → RdB w (.slice pb cn qc) c) (hcn : c.length = cn) (hbd : bn ≤ 140737488355328) (hcd : cn ≤ 140737488355328) :
  Calls Tryz.prog 12 #[.slice pa bn pc, .slice pb cn qc, .int .i64 ticks] w fun e w' => e = .returned (.bool true) ∧ Ext NoB w w' := by
 by_cases h : bn < 1 ∨ cn < 1 ∨ 1000 < bn + cn ∨ ticks < 0 ∨ 60 < ticks
 ·exact split_light pa pb pc qc bn cn ticks w hbd hcd h
 ·have hc' := hc (by omega)
  by_cases he : b = c
  ·subst he
   exact split_same_walk b pa pb pc qc bn cn ticks w hb hbn hc'.cells hcn (by omega) (by omega) (by omega) (by omega) (by omega)
  ·obtain ⟨q, G, Gc, G2, Gp, hR, hrest⟩ := split_all
   exact split_walk b c pa pb pc qc bn cn ticks 0 2 q G Gc G2 Gp hR hrest w hb hbn hc' hcn (by omega) (by omega) (by omega) (by omega) (by omega) he
end Go.Proofs.YtgglbholbkdgfaaGreatDoor
