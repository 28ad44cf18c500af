/- Joined texts: B131. Each has its own head. -/
import Derived.Test.YtgglbholbkdgfaaGreatDoorK26
set_option linter.unusedVariables false
set_option linter.unusedSimpArgs false
namespace Go.Proofs.YtgglbholbkdgfaaGreatDoor
open Go.RowKit
set_option maxRecDepth 100000 in
set_option maxHeartbeats 4000000 in
theorem few_walk5 (b : List UInt8) (pa : Option Addr) (pc : Nat) (ticks : Int) (ld q : Nat) (G Gd Gp : PGroup) (hR : FewRun 5 ld q G Gd Gp) (w : World) (hb : RdB w (.slice pa b.length pc) b) (h1 : 1 ≤ b.length) (h2 : b.length ≤ 1000) (ht0 : 0 ≤ ticks) (ht1 : ticks ≤ 300) :
    Calls Tryz.prog 10 #[.bool true, .slice pa b.length pc, .int .i64 ticks] w fun e w' => e = .returned (.bool true) ∧ Ext NoB w w' := by
  have hφ := tok1_ok (b := b) (by omega)
  have Hb := Lib.hid (And.intro hφ (And.intro hb (And.intro h1 (And.intro h2 (rd_below hb h1)))))
  obtain ⟨pn, hpn⟩ : ∃ pn, b.length = pn := ⟨_, rfl⟩
  rw [hpn] at Hb h1 h2 ⊢
  obtain ⟨t, rfl⟩ : ∃ t : Nat, ticks = (t : Int) := ⟨ticks.toNat, by omega⟩
  obtain ⟨Gt, hGt, hGtl⟩ := hR.rest t (by omega)
  have Hnew := Lib.hid (NewG_any (φ := tok1 b) 5 (by omega) w)
  have hkeep := newG_keep 5
  have kG := settle_keep _ _ _ hR.run
  obtain ⟨G0, hG0⟩ : ∃ G0, PGroup.newG 5 = G0 := ⟨_, rfl⟩
  have hrun := hR.run
  rw [hG0] at Hnew hkeep hrun
  have H := Lib.hid (And.intro hR (And.intro hkeep (And.intro hrun (And.intro hGt hGtl))))
  have Hpn := Lib.hid hpn
  have hzS := fun (w : World) => (show (zeroValue 68).run Tryz.prog w = .ok (.agg #[.int .i64 0, .int .i64 0, .int .i64 0, .int .i64 0, .int .i64 0, .int .i64 0, .int .u64 0, .int .u32 0, .slice none 0 0]) w by kernel_rfl)
  have g1 : ¬ ((pn : Int) < 1) := by omega
  have g2 : ¬ ((1000 : Int) < (pn : Int)) := by omega
  have g3 : ¬ ((t : Int) < 0) := by omega
  have g4 : ¬ ((300 : Int) < (t : Int)) := by omega
  clear hφ hb hR hkeep kG hrun hGt hGtl hpn hG0 ht0 ht1
  go_enter Tryz.func10, Tryz.ntmps10
  go_wp2_with fail
  refine Hnew.out.mono ?_; rintro e w1 ⟨g, rfl, hN⟩
  have Hset := Lib.hid (settle_new (k := 200) Hb.out.1 hN (by omega) (by rw [H.out.2.1.1, H.out.2.1.2]) H.out.2.2.1)
  clear hN Hnew
  go_wp2_with fail
  refine Hset.out.mono ?_; rintro e w2 ⟨rfl, hN⟩
  have HN := Lib.hid hN
  clear hN Hset
  go_wp2_with fail
  go_loopw [10, 11, 12, 13, 14] (fun l i _ _ _ wr => ∃ k : Nat, i = .int .i64 (k : Int) ∧ k ≤ 5 ∧ l = .int .i64 ((if ld < k then ld else 0 : Nat) : Int) ∧ Hid (GNew w wr g (tok1 b) G)) (fun _ i _ _ _ _ => 5 - (intOf i).toNat)
  case atStart => exact ⟨0, rfl, by omega, by rw [if_neg (by omega)]; rfl, HN⟩
  case round =>
    obtain ⟨k, rfl, hk, rfl, HG⟩ := hrel
    by_cases hlt : k < 5
    · obtain ⟨m, hmk, hup, hrole⟩ := H.out.1.led.is k hlt
      have Hs := Lib.hid (state_new HG.out (by rw [H.out.1.led.len, H.out.1.led.num]) hmk hup)
      have hk3 : (k : Int) < 5 := by omega
      have hwk : IntKind.i64.wrap ((k : Int) + 1) = (k : Int) + 1 := IntWalk.i64_in _ (by omega)
      obtain ⟨ro, hro⟩ : ∃ ro, m.N.role = ro := ⟨_, rfl⟩
      obtain ⟨q0, hq0⟩ : ∃ q0 : Nat, (if ld < k then ld else 0) = q0 := ⟨_, rfl⟩
      rw [hro] at Hs hrole
      rw [hq0]
      have Hq0 := Lib.hid (And.intro hq0 hrole)
      clear hmk hup hro hq0
      by_cases hkl : k = ld
      · have hb2 : ((ro : Int) == 2) = true := by rw [hrole.2 hkl]; rfl
        have Hkl := Lib.hid hkl
        clear hkl hrole
        go_wp2_with fail
        refine Hs.out.mono ?_; rintro e w3 ⟨rfl, hst⟩
        have Hst3 := Lib.hid hst
        clear hst
        go_wp2_with fail
        go_roundw
        case rel => exact ⟨k + 1, by go_num, by omega, by rw [if_pos (by have := Hkl.out; omega), Hkl.out], Hst3⟩
        case measure => simp [intOf]; omega
      · have hb2 : ((ro : Int) == 2) = false := beq_eq_false_iff_ne.2 (fun h => hkl (hrole.1 (by omega)))
        have Hkl := Lib.hid hkl
        clear hkl hrole
        go_wp2_with fail
        refine Hs.out.mono ?_; rintro e w3 ⟨rfl, hst⟩
        have Hst3 := Lib.hid hst
        clear hst
        go_wp2_with fail
        go_roundw
        case rel =>
          refine ⟨k + 1, by go_num, by omega, ?_, Hst3⟩
          have h1 := Hq0.out.1
          have h2 := Hkl.out
          by_cases h : ld < k
          · rw [if_pos (by omega), ← h1, if_pos h]
          · rw [if_neg (by omega), ← h1, if_neg h]
        case measure => simp [intOf]; omega
    · obtain rfl : k = 5 := by omega
      have hlt' : ld < 5 := H.out.1.led.lt
      rw [if_pos hlt', show ((5 : Nat) : Int) = (5 : Int) from rfl]
      go_wp2_with fail
      go_loopw [15, 16] (fun c i wr => ∃ (k dn : Nat) (Gk : PGroup), i = .int .i64 (k : Int) ∧ c = .int .i64 (dn : Int) ∧ k ≤ 5 ∧ dn ≤ k ∧ Hid (GNew w wr g (tok1 b) Gk) ∧ Hid (Gk.mem.length = 5 ∧ Gk.n = 5 ∧ PGroup.downN 5 ld (5 - k) k dn Gk = some Gd)) (fun _ i _ => 5 - (intOf i).toNat)
      case atStart => exact ⟨0, 0, G, rfl, rfl, by omega, by omega, HG, Lib.hid ⟨H.out.1.led.len, H.out.1.led.num, H.out.1.down⟩⟩
      case round =>
        obtain ⟨k, dn, Gk, rfl, rfl, hk, hdn, HGk, HD⟩ := hrel
        have hw2 : IntKind.i64.wrap (2 * (dn : Int)) = 2 * (dn : Int) := IntWalk.i64_in _ (by omega)
        by_cases hgo : k < 5 ∧ 2 * dn < 5
        · have hk3 : (k : Int) < 5 := by omega
          have hd3 : 2 * (dn : Int) < 5 := by omega
          have hwk : IntKind.i64.wrap ((k : Int) + 1) = (k : Int) + 1 := IntWalk.i64_in _ (by omega)
          have hwd : IntKind.i64.wrap ((dn : Int) + 1) = (dn : Int) + 1 := IntWalk.i64_in _ (by omega)
          have hstep := HD.out.2.2
          obtain ⟨f, hf⟩ : ∃ f, 5 - k = f + 1 := ⟨5 - k - 1, by omega⟩
          rw [hf] at hstep
          have hf2 : 5 - (k + 1) = f := by omega
          rcases downN_step hstep hgo.2 with ⟨hkl, hnext⟩ | ⟨hkl, G1, hc, hnext⟩
          · have hne : ((k : Int) != (ld : Int)) = false := by rw [hkl]; exact bne_self_eq_false _
            have HD2 := Lib.hid (And.intro HD.out.1 (And.intro HD.out.2.1 (show PGroup.downN 5 ld (5 - (k + 1)) (k + 1) dn Gk = some Gd by rw [hf2]; exact hnext)))
            clear hkl hnext hstep hf hf2 hgo
            go_wp2_with fail
            go_roundw
            case rel => exact ⟨k + 1, dn, Gk, by go_num, rfl, by omega, by omega, HGk, HD2⟩
            case measure => simp [intOf]; omega
          · have hne : ((k : Int) != (ld : Int)) = true := bne_iff_ne.2 (by omega)
            have ck := crash_keep hc
            have HD2 := Lib.hid (And.intro (ck.1.trans HD.out.1) (And.intro (ck.2.trans HD.out.2.1) (show PGroup.downN 5 ld (5 - (k + 1)) (k + 1) (dn + 1) G1 = some Gd by rw [hf2]; exact hnext)))
            have Hcr := Lib.hid (crash_new HGk.out (by rw [HD.out.1, HD.out.2.1]) hc 0 (by omega))
            clear hkl hnext hstep hf hf2 hgo ck hc
            go_wp2_with fail
            refine Hcr.out.mono ?_; rintro e w3 ⟨rfl, hst⟩
            have Hst3 := Lib.hid hst
            clear hst
            go_wp2_with fail
            go_roundw
            case rel => exact ⟨k + 1, dn + 1, G1, by go_num, by go_num, by omega, by omega, Hst3, HD2⟩
            case measure => simp [intOf]; omega
        · have hGG := downN_end HD.out.2.2 (by omega)
          subst hGG
          have hall := HD.out.1.trans HD.out.2.1.symm
          have hex : ¬ ((k : Int) < 5) ∨ ((k : Int) < 5 ∧ ¬ (2 * (dn : Int) < 5)) := by omega
          obtain ⟨m, hm⟩ : ∃ m, Gk.mem[ld]? = some m := ⟨_, List.getElem?_eq_getElem (by rw [HD.out.1]; exact hlt')⟩
          have htk := took_get hm
          have htl := H.out.1.took
          have Htaken := Lib.hid (taken_new Hb.out.1 HGk.out hall hm (by omega))
          have kp := propose_keep H.out.1.prop
          have ks := settle_keep _ _ _ H.out.2.2.2.1
          have hall2 : Gp.mem.length = Gp.n := by rw [kp.1, kp.2]; exact hall
          have hall3 : Gt.mem.length = Gt.n := by rw [ks.1, ks.2]; exact hall2
          obtain ⟨m3, hm3⟩ : ∃ m, Gt.mem[ld]? = some m := ⟨_, List.getElem?_eq_getElem (by rw [ks.1, kp.1, HD.out.1]; exact hlt')⟩
          have htk3 := took_get hm3
          have hlen3 : m3.took.length = m.took.length := by rw [← htk3, ← htk]; exact H.out.2.2.2.2
          have HA := Lib.hid (And.intro hall2 (And.intro hall3 (And.intro hm3 (And.intro hlen3 (And.intro (show m.took.length ≤ 1000 by omega) hall)))))
          clear hgo htk htl kp ks hall2 hall3 hm3 htk3 hlen3 hm hall
          rcases hex with hex | ⟨hex, hex2⟩
          all_goals
            go_wp2_with fail
            refine Htaken.out.mono ?_; rintro e w3 ⟨v, rfl, hE, hF, hX, hst⟩
            obtain ⟨ms, hms, hown, -⟩ := hE
            have hml := hms.len
            rw [List.length_map] at hml
            obtain ⟨va, vn, vc, rfl, hvl, _⟩ := hown.rd
            have hvn : vn = m.took.length := by omega
            have Hpr := Lib.hid (propose_new (pn := pn) Hb.out.1 hst HA.out.2.2.2.2.2 H.out.1.prop (by rw [tok1_one]; exact Hb.out.2.1) Hb.out.2.2.2.2 h1 (by rw [tok1_one]; exact Hpn.out))
            have Hvn := Lib.hid hvn
            clear hms hown hml hvl hvn hst hF hX
            go_wp2_with fail
            refine Hpr.out.mono ?_; rintro e w4 ⟨rfl, hst⟩
            have Hset := Lib.hid (settle_new (k := t) Hb.out.1 hst (by omega) HA.out.1 H.out.2.2.2.1)
            clear hst
            go_wp2_with fail
            refine Hset.out.mono ?_; rintro e w5 ⟨rfl, hst⟩
            have Htk2 := Lib.hid (taken_new Hb.out.1 hst HA.out.2.1 HA.out.2.2.1 (by have h1 := HA.out.2.2.2.1; have h2 := HA.out.2.2.2.2.1; omega))
            clear hst
            go_wp2_with fail
            refine Htk2.out.mono ?_; rintro e w6 ⟨v2, rfl, hE, hF, hX, hst⟩
            obtain ⟨ms2, hms2, hown2, -⟩ := hE
            have hml2 := hms2.len
            rw [List.length_map] at hml2
            obtain ⟨va2, vn2, vc2, rfl, hvl2, _⟩ := hown2.rd
            have hvn2 : vn2 = vn := by have := HA.out.2.2.2.1; have := Hvn.out; omega
            subst hvn2
            have Hst := Lib.hid hst
            clear hms2 hown2 hml2 hvl2 hF hX hst
            go_wp2_with fail
            refine (known17_any w6).mono ?_; rintro e w7 ⟨rfl, x7⟩
            have Hx7 := Lib.hid x7
            clear x7
            go_wp2_with fail
            go_ret
            exact ⟨rfl, Hst.out.ext.trans Hx7.out⟩
set_option maxRecDepth 100000 in
set_option maxHeartbeats 4000000 in
theorem few_light (five : Bool) (pa : Option Addr) (pn pc : Nat) (ticks : Int) (w : World) (h : pn < 1 ∨ 1000 < pn ∨ ticks < 0 ∨ 300 < ticks) :
    Calls Tryz.prog 10 #[.bool five, .slice pa pn pc, .int .i64 ticks] w fun e w' => e = .returned (.bool true) ∧ Ext NoB w w' := by
  have Hk := Lib.hid (known17_any w)
  by_cases h1 : pn < 1
  · have g1 : ((pn : Int) < 1) := by omega
    clear h h1
    go_enter Tryz.func10, Tryz.ntmps10
    go_wp2_with fail
    refine Hk.out.mono ?_; rintro e w7 ⟨rfl, x7⟩
    have Hx7 := Lib.hid x7
    clear x7
    go_wp2_with fail
    go_ret
    exact ⟨rfl, Hx7.out⟩
  · have g1 : ¬ ((pn : Int) < 1) := by omega
    by_cases h2 : 1000 < pn
    · have g2 : ((1000 : Int) < (pn : Int)) := by omega
      clear h h1 h2
      go_enter Tryz.func10, Tryz.ntmps10
      go_wp2_with fail
      refine Hk.out.mono ?_; rintro e w7 ⟨rfl, x7⟩
      have Hx7 := Lib.hid x7
      clear x7
      go_wp2_with fail
      go_ret
      exact ⟨rfl, Hx7.out⟩
    · have g2 : ¬ ((1000 : Int) < (pn : Int)) := by omega
      by_cases g3 : ticks < 0
      · clear h h1 h2
        go_enter Tryz.func10, Tryz.ntmps10
        go_wp2_with fail
        refine Hk.out.mono ?_; rintro e w7 ⟨rfl, x7⟩
        have Hx7 := Lib.hid x7
        clear x7
        go_wp2_with fail
        go_ret
        exact ⟨rfl, Hx7.out⟩
      · have g4 : 300 < ticks := by omega
        clear h h1 h2
        go_enter Tryz.func10, Tryz.ntmps10
        go_wp2_with fail
        refine Hk.out.mono ?_; rintro e w7 ⟨rfl, x7⟩
        have Hx7 := Lib.hid x7
        clear x7
        go_wp2_with fail
        go_ret
        exact ⟨rfl, Hx7.out⟩
theorem few_run_of {n ld : Nat} (h : fewB n ld = true) : ∃ q G Gd Gp, FewRun n ld q G Gd Gp := by
  obtain ⟨G, Gd, Gp, q, h1, h2, h3, h4, h5, h6⟩ := few_of h
  exact ⟨q, G, Gd, Gp, h1, h2, h3, h4, h5, h6⟩
theorem few_any (five : Bool) (b : List UInt8) (pa : Option Addr) (pn pc : Nat) (ticks : Int) (w : World) (hb : 1 ≤ pn → RdB w (.slice pa pn pc) b) (hn : b.length = pn) :
    Calls Tryz.prog 10 #[.bool five, .slice pa pn pc, .int .i64 ticks] w fun e w' => e = .returned (.bool true) ∧ Ext NoB w w' := by
  by_cases h : pn < 1 ∨ 1000 < pn ∨ ticks < 0 ∨ 300 < ticks
  · exact few_light five pa pn pc ticks w h
  · have hb' := hb (by omega)
    subst hn
    cases five with
    | false =>
      obtain ⟨q, G, Gd, Gp, hR⟩ := few_run_of few3
      exact few_walk3 b pa pc ticks 0 q G Gd Gp hR w hb' (by omega) (by omega) (by omega) (by omega)
    | true =>
      obtain ⟨q, G, Gd, Gp, hR⟩ := few_run_of few5
      exact few_walk5 b pa pc ticks 0 q G Gd Gp hR w hb' (by omega) (by omega) (by omega) (by omega)
end Go.Proofs.YtgglbholbkdgfaaGreatDoor
