/- Joined texts: B130 B134. Each has its own head. -/
import Derived.Test.YtgglbholbkdgfaaGreatDoorK25
import Derived.Test.YtgglbholbkdgfaaGreatDoorK17
set_option linter.unusedVariables false
set_option linter.unusedSimpArgs false
namespace Go.Proofs.YtgglbholbkdgfaaGreatDoor
open Go.RowKit
theorem CellsB.rd {w : World} {a : Option Addr} {l : List UInt8} {n c : Nat} (h : CellsB w a l) (hn : l.length = n) (h1 : n ≤ c) (h2 : c ≤ maxLen) (h0 : 1 ≤ n) : RdB w (.slice a n c) l := by
 obtain ⟨x, hx⟩ : ∃ x, l[0]? = some x := ⟨_, List.getElem?_eq_getElem (by omega)⟩
 obtain ⟨b, off, rfl, _⟩ := h 0 x hx
 refine ⟨_, n, c, rfl, by rw [bytesV, List.length_map]; omega, h1, h2, fun p hp => by cases hp; rfl, fun _ => ⟨b, off, rfl, fun j u hu => ?_⟩⟩
 rw [bytesV, List.getElem?_map] at hu
 obtain ⟨y, hy, rfl⟩ := Option.map_eq_some_iff.1 hu
 obtain ⟨b', off', e, hc⟩ := h j y hy
 cases e
 exact hc
theorem rd_below {w : World} {a : Option Addr} {n c : Nat} {l : List UInt8} (h : RdB w (.slice a n c) l) (h1 : 1 ≤ l.length) : ∀ b, (Value.slice a n c).ownBlock = some b → b < w.heap.size := by
 obtain ⟨a', n', c', e, _, _, _, _, hr⟩ := h
 cases e
 obtain ⟨x, hx⟩ : ∃ x, (bytesV l)[0]? = some x := ⟨_, List.getElem?_eq_getElem (by rw [bytesV, List.length_map]; omega)⟩
 obtain ⟨b, off, rfl, hc⟩ := hr (fun e => by rw [e] at hx; cases hx)
 intro b' hb
 have := World.block_lt_of_cell? w _ (hc 0 x hx)
 cases hb
 exact this
def tok1 (b : List UInt8) (x : List UInt8) : List UInt8 := if x = [] then [] else b
theorem tok1_ok {b : List UInt8} (h : b.length ≤ 3000) : Tok (tok1 b) := ⟨if_pos rfl, fun x => by unfold tok1; split; exact Nat.zero_le _; exact h⟩
theorem tok1_one (b : List UInt8) : tok1 b [1] = b := if_neg (by decide)
theorem GNew.ext {w w' : World} {g : Nat} {φ : List UInt8 → List UInt8} {G : PGroup} (h : GNew w w' g φ G) : Ext NoB w w' := by
 obtain ⟨_, _, _, _, h, _⟩ := h
 exact h
theorem GNew.no {w w1 w2 : World} {g : Nat} {φ : List UInt8 → List UInt8} {G : PGroup} (h : GNew w w1 g φ G) (x : Ext NoB w1 w2) : GNew w w2 g φ G := by
 obtain ⟨FS, ms, rv, h1, h2, h3⟩ := h
 exact ⟨FS, ms, rv, h1.no x, h2.trans x, h3⟩
theorem settle_new {φ : List UInt8 → List UInt8} (hφ : Tok φ) {w w1 : World} {g k : Nat} {G G' : PGroup} (h : GNew w w1 g φ G) (hk : k ≤ 2000) (hall : G.mem.length = G.n) (hs : PGroup.settle k G = some G') :
  Calls Tryz.prog 29 #[.pointer (some ⟨g, 0, none⟩), .int .i64 (k : Int)] w1 fun e w' => e = .returned (.tuple #[]) ∧ GNew w w' g φ G' := by
 obtain ⟨FS, ms, rv, hA, hX, hF⟩ := h
 refine (settle_any hφ g k FS G G' ms rv w1 hk hA hall hs).mono ?_
 rintro e w2 ⟨rfl, hst⟩
 exact ⟨rfl, GNew.step hX hF hst⟩
theorem state_new {φ : List UInt8 → List UInt8} {w w1 : World} {g i : Nat} {G : PGroup} {m : PMem} (h : GNew w w1 g φ G) (hall : G.mem.length = G.n) (hm : G.mem[i]? = some m) (hup : m.up = true) :
  Calls Tryz.prog 31 #[.pointer (some ⟨g, 0, none⟩), .int .i64 (i : Int)] w1 fun e w' => e = .returned (.tuple #[.int .i64 (m.N.role : Int), .int .i64 (m.N.term : Int), .bool true]) ∧ GNew w w' g φ G := by
 obtain ⟨FS, ms, rv, hA, hX, hF⟩ := h
 refine (stateG g i FS φ G ms rv m w1 hA hall hm hup).mono ?_
 rintro e w2 ⟨rfl, hst⟩
 exact ⟨rfl, GNew.step hX hF hst⟩
theorem crash_new {φ : List UInt8 → List UInt8} {w w1 : World} {g i : Nat} {G G' : PGroup} (h : GNew w w1 g φ G) (hall : G.mem.length = G.n) (hs : G.crash i = some G') (dr : Int) (hdr : 0 ≤ dr) :
  Calls Tryz.prog 30 #[.pointer (some ⟨g, 0, none⟩), .agg #[.int .i64 6, .int .i64 (i : Int), .int .i64 0, .int .i64 dr, .int .i64 0, .int .i64 0, .int .u64 0, .int .u32 0, .slice none 0 0]] w1 fun e w' => e = .returned (.int .i64 0) ∧ GNew w w' g φ G' := by
 obtain ⟨FS, ms, rv, hA, hX, hF⟩ := h
 refine (do_crash g i FS φ G G' ms rv 0 dr 0 0 0 0 none 0 0 w1 hA hall hs hdr).mono ?_
 rintro e w2 ⟨rfl, hst⟩
 exact ⟨rfl, GNew.step hX hF hst⟩
theorem start_new {φ : List UInt8 → List UInt8} (hφ : Tok φ) {w w1 : World} {g i : Nat} {G G' : PGroup} (h : GNew w w1 g φ G) (hall : G.mem.length = G.n) (hs : G.start i = some G') :
  Calls Tryz.prog 30 #[.pointer (some ⟨g, 0, none⟩), .agg #[.int .i64 7, .int .i64 (i : Int), .int .i64 0, .int .i64 0, .int .i64 0, .int .i64 0, .int .u64 0, .int .u32 0, .slice none 0 0]] w1 fun e w' => e = .returned (.int .i64 0) ∧ GNew w w' g φ G' := by
 obtain ⟨FS, ms, rv, hA, hX, hF⟩ := h
 refine (do_start hφ g i FS G G' ms rv 0 0 0 0 0 0 none 0 0 w1 hA hall hs).mono ?_
 rintro e w2 ⟨rfl, hst⟩
 exact ⟨rfl, GNew.step hX hF hst⟩
theorem taken_new {φ : List UInt8 → List UInt8} (hφ : Tok φ) {w w1 : World} {g i : Nat} {G : PGroup} {m : PMem} (h : GNew w w1 g φ G) (hall : G.mem.length = G.n) (hm : G.mem[i]? = some m) (hl : m.took.length ≤ 1000000) :
  Calls Tryz.prog 32 #[.pointer (some ⟨g, 0, none⟩), .int .i64 (i : Int)] w1 fun e w' => ∃ v, e = .returned v ∧ EntsNew w1 w' v (m.took.map (subE φ)) ∧ Fresh w1 v ∧ Ext NoB w1 w' ∧ GNew w w' g φ G := by
 obtain ⟨FS, ms, rv, hA, hX, hF⟩ := h
 refine (taken_any g i FS φ hφ G ms rv m w1 hA hall hm hl).mono ?_
 rintro e w2 ⟨v, rfl, h1, h2, h3⟩
 exact ⟨v, rfl, h1, h2, h3, FS, ms, rv, hA.no h3, hX.trans h3, hF⟩
theorem propose_new {φ : List UInt8 → List UInt8} (hφ : Tok φ) {w w1 : World} {g i n c pn : Nat} {p : List UInt8} {G G' : PGroup} {pa : Option Addr} {pc : Nat} (h : GNew w w1 g φ G) (hall : G.mem.length = G.n) (hs : G.propose i p = some ((n, c), G')) (hx : RdB w (.slice pa pn pc) (φ p)) (hw : ∀ b, (Value.slice pa pn pc).ownBlock = some b → b < w.heap.size) (h1 : 1 ≤ pn) (hpn : (φ p).length = pn) :
  Calls Tryz.prog 28 #[.pointer (some ⟨g, 0, none⟩), .int .i64 (i : Int), .slice pa pn pc] w1 fun e w' => e = .returned (.tuple #[.int .i64 (n : Int), .int .i64 (c : Int)]) ∧ GNew w w' g φ G' := by
 obtain ⟨FS, ms, rv, hA, hX, hF⟩ := h
 subst hpn
 refine (propose_any hφ g i n c p FS G G' ms rv pa pc w1 hA hall hs (Rd.no hx hX) (fun k b hb hk => ?_) h1).mono ?_
 ·have h1 := hF k b hk
  have h2 := hw b hb
  omega
 ·rintro e w2 ⟨rfl, hst⟩
  exact ⟨rfl, GNew.step hX hF hst⟩
theorem downN_step {n ld f k dn : Nat} {G Gd : PGroup} (h : PGroup.downN n ld (f + 1) k dn G = some Gd) (h2 : 2 * dn < n) : (k = ld ∧ PGroup.downN n ld f (k + 1) dn G = some Gd) ∨ (k ≠ ld ∧ ∃ G1, G.crash k = some G1 ∧ PGroup.downN n ld f (k + 1) (dn + 1) G1 = some Gd) := by
 rw [PGroup.downN, if_pos h2] at h
 by_cases hk : k = ld
 ·rw [if_pos hk] at h
  exact .inl ⟨hk, h⟩
 ·rw [if_neg hk] at h
  cases hc : G.crash k with
  | none => rw [hc] at h; cases h
  | some G1 => rw [hc] at h; exact .inr ⟨hk, G1, rfl, h⟩
theorem downN_end {n ld f k dn : Nat} {G Gd : PGroup} (h : PGroup.downN n ld f k dn G = some Gd) (h2 : f = 0 ∨ ¬ 2 * dn < n) : G = Gd := by
 cases f with
 | zero => rw [PGroup.downN] at h; exact Option.some.inj h
 | succ f =>
  rw [PGroup.downN, if_neg (by omega)] at h
  exact Option.some.inj h
theorem took_get {G : PGroup} {i : Nat} {m : PMem} (h : G.mem[i]? = some m) : G.tookN i = m.took.length := by unfold PGroup.tookN; rw [h]
structure FewRun (n ld q : Nat) (G Gd Gp : PGroup) : Prop where
 run : PGroup.settle 200 (PGroup.newG n) = some G
 led : Led G n ld
 down : PGroup.downN n ld n 0 0 G = some Gd
 prop : Gd.propose ld [1] = some ((q, 0), Gp)
 took : Gd.tookN ld ≤ 1000
 rest : ∀ t, t ≤ 300 → ∃ Gt, PGroup.settle t Gp = some Gt ∧ Gt.tookN ld = Gd.tookN ld
theorem newG_keep (n : Nat) : (PGroup.newG n).mem.length = n ∧ (PGroup.newG n).n = n := by
 have h : ∀ (k : Nat) (G : PGroup), (PGroup.made n k G).mem.length = G.mem.length + k ∧ (PGroup.made n k G).n = G.n := by
  intro k
  induction k with
  | zero => intro G; exact ⟨rfl, rfl⟩
  | succ k ih =>
   intro G
   rw [made_succ]
   have := ih (G.add n)
   have h1 : (G.add n).mem.length = G.mem.length + 1 := by unfold PGroup.add; show (G.mem ++ [_]).length = _; rw [List.length_append]; rfl
   have h2 : (G.add n).n = G.n := rfl
   rw [this.1, this.2, h1, h2]
   exact ⟨by omega, rfl⟩
 have := h n ⟨n, [], [], 1⟩
 unfold PGroup.newG
 exact ⟨by rw [this.1]; simp, this.2⟩
set_option maxRecDepth 100000 in
set_option maxHeartbeats 4000000 in
theorem few_walk3 (b : List UInt8) (pa : Option Addr) (pc : Nat) (ticks : Int) (ld q : Nat) (G Gd Gp : PGroup) (hR : FewRun 3 ld q G Gd Gp) (w : World) (hb : RdB w (.slice pa b.length pc) b) (h1 : 1 ≤ b.length) (h2 : b.length ≤ 1000) (ht0 : 0 ≤ ticks) (ht1 : ticks ≤ 300) :
  Calls Tryz.prog 10 #[.bool false, .slice pa b.length pc, .int .i64 ticks] w fun e w' => e = .returned (.bool true) ∧ Ext NoB w w' := by
 have hφ := tok1_ok (b := b) (by omega)
 have Hb := Lib.hid (And.intro hφ (And.intro hb (And.intro h1 (And.intro h2 (rd_below hb h1)))))
 obtain ⟨pn, hpn⟩ : ∃ pn, b.length = pn := ⟨_, rfl⟩
 rw [hpn] at Hb h1 h2 ⊢
 obtain ⟨t, rfl⟩ : ∃ t : Nat, ticks = (t : Int) := ⟨ticks.toNat, by omega⟩
 obtain ⟨Gt, hGt, hGtl⟩ := hR.rest t (by omega)
 have Hnew := Lib.hid (NewG_any (φ := tok1 b) 3 (by omega) w)
 have hkeep := newG_keep 3
 have kG := settle_keep _ _ _ hR.run
 obtain ⟨G0, hG0⟩ : ∃ G0, PGroup.newG 3 = G0 := ⟨_, rfl⟩
 have hrun := hR.run
 rw [hG0] at Hnew hkeep hrun
 have H := Lib.hid (And.intro hR (And.intro hkeep (And.intro hrun (And.intro hGt hGtl))))
 have Hpn := Lib.hid hpn
 have hzS := fun (w : World) => (show (zeroValue 68).run Tryz.prog w = .ok (.agg #[.int .i64 0, .int .i64 0, .int .i64 0, .int .i64 0, .int .i64 0, .int .i64 0, .int .u64 0, .int .u32 0, .slice none 0 0]) w by kernel_rfl)
 have g1 : ¬ ((pn : Int) < 1) := by omega
 have g2 : ¬ ((1000 : Int) < (pn : Int)) := by omega
 have g3 : ¬ ((t : Int) < 0) := by omega
 have g4 : ¬ ((300 : Int) < (t : Int)) := by omega
 clear hφ hb hR hkeep kG hrun hGt hGtl hpn hG0 ht0 ht1
 go_enter Tryz.func10, Tryz.ntmps10
 go_wp2_with fail
 refine Hnew.out.mono ?_; rintro e w1 ⟨g, rfl, hN⟩
 have Hset := Lib.hid (settle_new (k := 200) Hb.out.1 hN (by omega) (by rw [H.out.2.1.1, H.out.2.1.2]) H.out.2.2.1)
 clear hN Hnew
 go_wp2_with fail
 refine Hset.out.mono ?_; rintro e w2 ⟨rfl, hN⟩
 have HN := Lib.hid hN
 clear hN Hset
 go_wp2_with fail
 go_loopw [10, 11, 12, 13, 14] (fun l i _ _ _ wr => ∃ k : Nat, i = .int .i64 (k : Int) ∧ k ≤ 3 ∧ l = .int .i64 ((if ld < k then ld else 0 : Nat) : Int) ∧ Hid (GNew w wr g (tok1 b) G)) (fun _ i _ _ _ _ => 3 - (intOf i).toNat)
 case atStart => exact ⟨0, rfl, by omega, by rw [if_neg (by omega)]; rfl, HN⟩
 case round =>
  obtain ⟨k, rfl, hk, rfl, HG⟩ := hrel
  by_cases hlt : k < 3
  ·obtain ⟨m, hmk, hup, hrole⟩ := H.out.1.led.is k hlt
   have Hs := Lib.hid (state_new HG.out (by rw [H.out.1.led.len, H.out.1.led.num]) hmk hup)
   have hk3 : (k : Int) < 3 := by omega
   have hwk : IntKind.i64.wrap ((k : Int) + 1) = (k : Int) + 1 := IntWalk.i64_in _ (by omega)
   obtain ⟨ro, hro⟩ : ∃ ro, m.N.role = ro := ⟨_, rfl⟩
   obtain ⟨q0, hq0⟩ : ∃ q0 : Nat, (if ld < k then ld else 0) = q0 := ⟨_, rfl⟩
   rw [hro] at Hs hrole
   rw [hq0]
   have Hq0 := Lib.hid (And.intro hq0 hrole)
   clear hmk hup hro hq0
   by_cases hkl : k = ld
   ·have hb2 : ((ro : Int) == 2) = true := by rw [hrole.2 hkl]; rfl
    have Hkl := Lib.hid hkl
    clear hkl hrole
    go_wp2_with fail
    refine Hs.out.mono ?_; rintro e w3 ⟨rfl, hst⟩
    have Hst3 := Lib.hid hst
    clear hst
    go_wp2_with fail
    go_roundw
    case rel => exact ⟨k + 1, by go_num, by omega, by rw [if_pos (by have := Hkl.out; omega), Hkl.out], Hst3⟩
    case measure => simp [intOf]; omega
   ·have hb2 : ((ro : Int) == 2) = false := beq_eq_false_iff_ne.2 (fun h => hkl (hrole.1 (by omega)))
    have Hkl := Lib.hid hkl
    clear hkl hrole
    go_wp2_with fail
    refine Hs.out.mono ?_; rintro e w3 ⟨rfl, hst⟩
    have Hst3 := Lib.hid hst
    clear hst
    go_wp2_with fail
    go_roundw
    case rel =>
     refine ⟨k + 1, by go_num, by omega, ?_, Hst3⟩
     have h1 := Hq0.out.1
     have h2 := Hkl.out
     by_cases h : ld < k
     ·rw [if_pos (by omega), ← h1, if_pos h]
     ·rw [if_neg (by omega), ← h1, if_neg h]
    case measure => simp [intOf]; omega
  ·obtain rfl : k = 3 := by omega
   have hlt' : ld < 3 := H.out.1.led.lt
   rw [if_pos hlt', show ((3 : Nat) : Int) = (3 : Int) from rfl]
   go_wp2_with fail
   go_loopw [15, 16] (fun c i wr => ∃ (k dn : Nat) (Gk : PGroup), i = .int .i64 (k : Int) ∧ c = .int .i64 (dn : Int) ∧ k ≤ 3 ∧ dn ≤ k ∧ Hid (GNew w wr g (tok1 b) Gk) ∧ Hid (Gk.mem.length = 3 ∧ Gk.n = 3 ∧ PGroup.downN 3 ld (3 - k) k dn Gk = some Gd)) (fun _ i _ => 3 - (intOf i).toNat)
   case atStart => exact ⟨0, 0, G, rfl, rfl, by omega, by omega, HG, Lib.hid ⟨H.out.1.led.len, H.out.1.led.num, H.out.1.down⟩⟩
   case round =>
    obtain ⟨k, dn, Gk, rfl, rfl, hk, hdn, HGk, HD⟩ := hrel
    have hw2 : IntKind.i64.wrap (2 * (dn : Int)) = 2 * (dn : Int) := IntWalk.i64_in _ (by omega)
    by_cases hgo : k < 3 ∧ 2 * dn < 3
    ·have hk3 : (k : Int) < 3 := by omega
     have hd3 : 2 * (dn : Int) < 3 := by omega
     have hwk : IntKind.i64.wrap ((k : Int) + 1) = (k : Int) + 1 := IntWalk.i64_in _ (by omega)
     have hwd : IntKind.i64.wrap ((dn : Int) + 1) = (dn : Int) + 1 := IntWalk.i64_in _ (by omega)
     have hstep := HD.out.2.2
     obtain ⟨f, hf⟩ : ∃ f, 3 - k = f + 1 := ⟨3 - k - 1, by omega⟩
     rw [hf] at hstep
     have hf2 : 3 - (k + 1) = f := by omega
     rcases downN_step hstep hgo.2 with ⟨hkl, hnext⟩ | ⟨hkl, G1, hc, hnext⟩
     ·have hne : ((k : Int) != (ld : Int)) = false := by rw [hkl]; exact bne_self_eq_false _
      have HD2 := Lib.hid (And.intro HD.out.1 (And.intro HD.out.2.1 (show PGroup.downN 3 ld (3 - (k + 1)) (k + 1) dn Gk = some Gd by rw [hf2]; exact hnext)))
      clear hkl hnext hstep hf hf2 hgo
      go_wp2_with fail
      go_roundw
      case rel => exact ⟨k + 1, dn, Gk, by go_num, rfl, by omega, by omega, HGk, HD2⟩
      case measure => simp [intOf]; omega
     ·have hne : ((k : Int) != (ld : Int)) = true := bne_iff_ne.2 (by omega)
      have ck := crash_keep hc
      have HD2 := Lib.hid (And.intro (ck.1.trans HD.out.1) (And.intro (ck.2.trans HD.out.2.1) (show PGroup.downN 3 ld (3 - (k + 1)) (k + 1) (dn + 1) G1 = some Gd by rw [hf2]; exact hnext)))
      have Hcr := Lib.hid (crash_new HGk.out (by rw [HD.out.1, HD.out.2.1]) hc 0 (by omega))
      clear hkl hnext hstep hf hf2 hgo ck hc
      go_wp2_with fail
      refine Hcr.out.mono ?_; rintro e w3 ⟨rfl, hst⟩
      have Hst3 := Lib.hid hst
      clear hst
      go_wp2_with fail
      go_roundw
      case rel => exact ⟨k + 1, dn + 1, G1, by go_num, by go_num, by omega, by omega, Hst3, HD2⟩
      case measure => simp [intOf]; omega
    ·have hGG := downN_end HD.out.2.2 (by omega)
     subst hGG
     have hall := HD.out.1.trans HD.out.2.1.symm
     have hex : ¬ ((k : Int) < 3) ∨ ((k : Int) < 3 ∧ ¬ (2 * (dn : Int) < 3)) := by omega
     obtain ⟨m, hm⟩ : ∃ m, Gk.mem[ld]? = some m := ⟨_, List.getElem?_eq_getElem (by rw [HD.out.1]; exact hlt')⟩
     have htk := took_get hm
     have htl := H.out.1.took
     have Htaken := Lib.hid (taken_new Hb.out.1 HGk.out hall hm (by omega))
     have kp := propose_keep H.out.1.prop
     have ks := settle_keep _ _ _ H.out.2.2.2.1
     have hall2 : Gp.mem.length = Gp.n := by rw [kp.1, kp.2]; exact hall
     have hall3 : Gt.mem.length = Gt.n := by rw [ks.1, ks.2]; exact hall2
     obtain ⟨m3, hm3⟩ : ∃ m, Gt.mem[ld]? = some m := ⟨_, List.getElem?_eq_getElem (by rw [ks.1, kp.1, HD.out.1]; exact hlt')⟩
     have htk3 := took_get hm3
     have hlen3 : m3.took.length = m.took.length := by rw [← htk3, ← htk]; exact H.out.2.2.2.2
     have HA := Lib.hid (And.intro hall2 (And.intro hall3 (And.intro hm3 (And.intro hlen3 (And.intro (show m.took.length ≤ 1000 by omega) hall)))))
     clear hgo htk htl kp ks hall2 hall3 hm3 htk3 hlen3 hm hall
     rcases hex with hex | ⟨hex, hex2⟩
     all_goals
      go_wp2_with fail
      refine Htaken.out.mono ?_; rintro e w3 ⟨v, rfl, hE, hF, hX, hst⟩
      obtain ⟨ms, hms, hown, -⟩ := hE
      have hml := hms.len
      rw [List.length_map] at hml
      obtain ⟨va, vn, vc, rfl, hvl, _⟩ := hown.rd
      have hvn : vn = m.took.length := by omega
      have Hpr := Lib.hid (propose_new (pn := pn) Hb.out.1 hst HA.out.2.2.2.2.2 H.out.1.prop (by rw [tok1_one]; exact Hb.out.2.1) Hb.out.2.2.2.2 h1 (by rw [tok1_one]; exact Hpn.out))
      have Hvn := Lib.hid hvn
      clear hms hown hml hvl hvn hst hF hX
      go_wp2_with fail
      refine Hpr.out.mono ?_; rintro e w4 ⟨rfl, hst⟩
      have Hset := Lib.hid (settle_new (k := t) Hb.out.1 hst (by omega) HA.out.1 H.out.2.2.2.1)
      clear hst
      go_wp2_with fail
      refine Hset.out.mono ?_; rintro e w5 ⟨rfl, hst⟩
      have Htk2 := Lib.hid (taken_new Hb.out.1 hst HA.out.2.1 HA.out.2.2.1 (by have h1 := HA.out.2.2.2.1; have h2 := HA.out.2.2.2.2.1; omega))
      clear hst
      go_wp2_with fail
      refine Htk2.out.mono ?_; rintro e w6 ⟨v2, rfl, hE, hF, hX, hst⟩
      obtain ⟨ms2, hms2, hown2, -⟩ := hE
      have hml2 := hms2.len
      rw [List.length_map] at hml2
      obtain ⟨va2, vn2, vc2, rfl, hvl2, _⟩ := hown2.rd
      have hvn2 : vn2 = vn := by have := HA.out.2.2.2.1; have := Hvn.out; omega
      subst hvn2
      have Hst := Lib.hid hst
      clear hms2 hown2 hml2 hvl2 hF hX hst
      go_wp2_with fail
      refine (known17_any w6).mono ?_; rintro e w7 ⟨rfl, x7⟩
      have Hx7 := Lib.hid x7
      clear x7
      go_wp2_with fail
      go_ret
      exact ⟨rfl, Hst.out.ext.trans Hx7.out⟩
end Go.Proofs.YtgglbholbkdgfaaGreatDoor
namespace Go.Proofs.YtgglbholbkdgfaaGreatDoor
open Go.RowKit
def eqB (a b : List UInt8) : Bool := decide (a = b)
theorem eqB_of {a b : List UInt8} (h : a = b) : eqB a b = true := decide_eq_true h
theorem eqB_not {a b : List UInt8} (h : a ≠ b) : eqB a b = false := decide_eq_false h
theorem ret_bool {a b : Bool} (h : a = b) : Ending.returned (.bool a) = .returned (.bool b) := by rw [h]
set_option maxRecDepth 100000 in
set_option maxHeartbeats 2000000 in
theorem same17_any (a b : Option Addr) (c c' n n' : Nat) (la lb : List UInt8) (w : World) (ha : CellsB w a la) (hb : CellsB w b lb) (hn : la.length = n) (hn' : lb.length = n') (hl : n ≤ 1000000000) :
  Calls Tryz.prog 34 #[.slice a n c, .slice b n' c'] w fun e w' => e = .returned (.bool (eqB la lb)) ∧ ∃ m, w' = w.drewN m := by
 have HA := Lib.hid (And.intro ha hn)
 have HB := Lib.hid (And.intro hb hn')
 clear ha hb hn hn'
 by_cases hnn : n = n'
 ·subst hnn
  go_enter Tryz.func34, Tryz.ntmps34
  go_wp2_with fail
  go_loopw [5] (fun i wr => ∃ k : Nat, i = .int .i64 (k : Int) ∧ k ≤ n ∧ Hid (la.take k = lb.take k) ∧ Hid (∃ m, wr = w.drewN m)) (fun i _ => n - (intOf i).toNat)
  case atStart => exact ⟨0, rfl, by omega, Lib.hid rfl, Lib.hid ⟨0, rfl⟩⟩
  case round =>
   obtain ⟨k, rfl, hk, HT, HX⟩ := hrel
   by_cases hlt : k < n
   ·obtain ⟨x, hx⟩ : ∃ x, la[k]? = some x := ⟨_, List.getElem?_eq_getElem (by rw [HA.out.2]; exact hlt)⟩
    obtain ⟨y, hy⟩ : ∃ y, lb[k]? = some y := ⟨_, List.getElem?_eq_getElem (by rw [HB.out.2]; exact hlt)⟩
    obtain ⟨b1, o1, rfl, c1⟩ := HA.out.1 k x hx
    obtain ⟨b2, o2, rfl, c2⟩ := HB.out.1 k y hy
    obtain ⟨mm, hmm⟩ := HX.out
    have hxx : Ext NoB w wr := by rw [hmm]; exact (Ext.refl _ w).drewN _
    replace c1 := hxx.cell c1 (fun h => h)
    replace c2 := hxx.cell c2 (fun h => h)
    have Hmm := Lib.hid hmm
    have Hxy := Lib.hid (And.intro hx hy)
    clear hmm hxx
    have hk0 : (0 : Int) ≤ (k : Int) := by omega
    have hk1 : (k : Int) < (n : Int) := by omega
    have hkn : ((k : Int)).toNat = k := by omega
    have hw3 : IntKind.i64.wrap ((k : Int) + 1) = (k : Int) + 1 := IntWalk.i64_in _ (by omega)
    clear hx hy
    by_cases hxy : x = y
    ·subst hxy
     go_wp2_with fail
     go_quiet (fail)
     go_wp2_with fail
     refine ⟨⟨k + 1, by go_num, by omega, Lib.hid (by rw [take_succ_some Hxy.out.1, take_succ_some Hxy.out.2, HT.out]), Lib.hid ⟨mm + nq, by rw [Hmm.out, World.drewN_drewN]⟩⟩, ?_⟩
     show n - ((k : Int) + 1).toNat < n - ((k : Int)).toNat
     omega
    ·have hne : ((x.toNat : Int) != (y.toNat : Int)) = true := bne_iff_ne.2 (fun h => hxy (UInt8.toNat.inj (by omega)))
     have hnl : la ≠ lb := fun h => by
      have h1 := Hxy.out.1
      rw [h, Hxy.out.2] at h1
      exact hxy (Option.some.inj h1).symm
     have Hnl := Lib.hid hnl
     clear hnl hxy
     go_wp2_with fail
     go_quiet (fail)
     go_wp2_with fail
     go_ret
     exact ⟨ret_bool (eqB_not Hnl.out).symm, mm + nq, by rw [Hmm.out, World.drewN_drewN]⟩
   ·obtain rfl : k = n := by omega
    go_wp2_with fail
    go_ret
    refine ⟨ret_bool (eqB_of ?_).symm, HX.out⟩
    have h := HT.out
    rwa [List.take_of_length_le (by rw [HA.out.2]; exact Nat.le_refl _), List.take_of_length_le (by rw [HB.out.2]; exact Nat.le_refl _)] at h
 ·have hne : ((n : Int) != (n' : Int)) = true := bne_iff_ne.2 (by omega)
  have hnl : la ≠ lb := fun h => hnn (by rw [← HA.out.2, ← HB.out.2, h])
  have Hnl := Lib.hid hnl
  clear hnl hnn
  go_enter Tryz.func34, Tryz.ntmps34
  go_wp2_with fail
  go_ret
  exact ⟨ret_bool (eqB_not Hnl.out).symm, 0, rfl⟩
set_option maxRecDepth 100000 in
set_option maxHeartbeats 4000000 in
theorem stateDown (g i : Nat) (FS : Nat → Nat → Prop) (φ : List UInt8 → List UInt8) (G : PGroup) (ms : List MInfo) (rv : Value) (m : PMem) (w : World) (h : GAt w g FS φ G ms rv) (hall : G.mem.length = G.n) (hm : G.mem[i]? = some m) (hup : m.up = false) :
  Calls Tryz.prog 31 #[.pointer (some ⟨g, 0, none⟩), .int .i64 (i : Int)] w fun e w' => e = .returned (.tuple #[.int .i64 0, .int .i64 0, .bool false]) ∧ w' = w := by
 obtain ⟨x, hx⟩ := h.info hm
 obtain ⟨cp, hi5⟩ := h.ptr hx
 have hmi := h.mem i x m hx hm
 have hin : i < G.n := by
  rw [← hall]
  rcases Nat.lt_or_ge i G.mem.length with h1 | h1
  ·exact h1
  ·rw [List.getElem?_eq_none h1] at hm; cases hm
 have c0 : w.cell? ⟨g, 0, none⟩ = some (.int .i64 (G.n : Int)) := by rw [cell_of_blk h.blk]; rfl
 have cm1 : w.cell? ⟨x.mb, 1, none⟩ = some x.p := by rw [cell_of_blk hmi.blk]; rfl
 have hi0 : (0 : Int) ≤ (i : Int) := by omega
 have hi5' : (i : Int) < 5 := by omega
 have hinn : ((i : Int)).toNat = i := by omega
 rcases hmi.node with ⟨h1, _⟩ | ⟨_, hp, _⟩
 ·rw [hup] at h1; cases h1
 ·rw [hp] at cm1
  have hhas := hasG g G.n i w c0 hin
  obtain ⟨mb, hmbE⟩ : ∃ mb, x.mb = mb := ⟨_, rfl⟩
  rw [hmbE] at cm1 cp
  clear h hx hm hmi hp hmbE hall
  go_enter Tryz.func31, Tryz.ntmps31
  go_wp2_with fail
  refine hhas.mono ?_; rintro e w2 ⟨rfl, rfl⟩
  go_wp2_with fail
  go_ret3
  exact ⟨rfl, rfl⟩
theorem down_new {φ : List UInt8 → List UInt8} {w w1 : World} {g i : Nat} {G : PGroup} {m : PMem} (h : GNew w w1 g φ G) (hall : G.mem.length = G.n) (hm : G.mem[i]? = some m) (hup : m.up = false) :
  Calls Tryz.prog 31 #[.pointer (some ⟨g, 0, none⟩), .int .i64 (i : Int)] w1 fun e w' => e = .returned (.tuple #[.int .i64 0, .int .i64 0, .bool false]) ∧ GNew w w' g φ G := by
 have h0 := h
 obtain ⟨FS, ms, rv, hA, hX, hF⟩ := h
 refine (stateDown g i FS φ G ms rv m w1 hA hall hm hup).mono ?_
 rintro e w2 ⟨rfl, rfl⟩
 exact ⟨rfl, h0⟩
end Go.Proofs.YtgglbholbkdgfaaGreatDoor
