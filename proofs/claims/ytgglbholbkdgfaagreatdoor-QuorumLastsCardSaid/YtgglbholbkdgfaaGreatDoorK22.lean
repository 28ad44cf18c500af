/- Joined texts: B112 B113 B114 B115 B116 B117. Each has its own head. -/
import Derived.Test.YtgglbholbkdgfaaGreatDoorK21
set_option linter.unusedVariables false
set_option linter.unusedSimpArgs false
namespace Go.Proofs.YtgglbholbkdgfaaGreatDoor
open Go.RowKit
theorem gives_any {φ : List UInt8 → List UInt8} (hφ : Tok φ) (g : Nat) (FS : Nat → Nat → Prop) (G G' : PGroup) (bb : Bool) (ms : List MInfo) (rv : Value) (w : World) (h : GAt w g FS φ G ms rv) (hall : G.mem.length = G.n) (hs : G.give = some (bb, G')) :
  Calls Tryz.prog 61 #[.pointer (some ⟨g, 0, none⟩), .int .i64 0] w fun e w' => e = .returned (.bool bb) ∧ GStep w w' g FS φ G' := by
 rcases give_some hs with ⟨h1, rfl, rfl⟩ | ⟨x, l, m, h1, h2, rfl, h3⟩
 ·exact gives_none g FS φ G ms rv w h h1
 ·exact gives_some hφ g FS G G' ms rv w h hall x l m h1 h2 h3
theorem went_keep {G G' : PGroup} {i : Nat} {m : PMem} {l : List QMsg} {N : PNode} (h : G.went i m l N = some G') : G'.mem.length = G.mem.length ∧ G'.n = G.n := by
 unfold PGroup.went at h
 split at h
 ·cases h
 ·have := (Option.some.inj h).symm
  rw [this]
  exact ⟨List.length_set .., rfl⟩
theorem stir_keep (G : PGroup) : G.stir.mem.length = G.mem.length ∧ G.stir.n = G.n := by
 rw [stir_eq]
 exact ⟨rfl, rfl⟩
theorem tick_keep {G G' : PGroup} {i : Nat} (hs : G.tick i = some G') : G'.mem.length = G.mem.length ∧ G'.n = G.n := by
 obtain ⟨m, _, h⟩ := tick_some hs
 rcases h with ⟨_, rfl⟩ | ⟨_, l, T', _, h⟩
 ·exact ⟨rfl, rfl⟩
 ·have a := went_keep h
  have b := stir_keep G
  exact ⟨a.1.trans b.1, a.2.trans b.2⟩
theorem ticksN_keep : ∀ (k i : Nat) (G G' : PGroup), G.ticksN k i = some G' → G'.mem.length = G.mem.length ∧ G'.n = G.n
 | 0, _, G, G', h => by
  rw [PGroup.ticksN] at h
  cases h
  exact ⟨rfl, rfl⟩
 | k + 1, i, G, G', h => by
  rw [PGroup.ticksN] at h
  cases ht : G.tick i with
  | none => rw [ht] at h; cases h
  | some G1 =>
   rw [ht] at h
   have a := tick_keep ht
   have b := ticksN_keep k (i + 1) G1 G' h
   exact ⟨b.1.trans a.1, b.2.trans a.2⟩
theorem give_keep {G G' : PGroup} {bb : Bool} (hs : G.give = some (bb, G')) : G'.mem.length = G.mem.length ∧ G'.n = G.n := by
 rcases give_some hs with ⟨_, _, rfl⟩ | ⟨x, l, m, _, _, _, ⟨_, rfl⟩ | ⟨_, q, T', _, h⟩⟩
 ·exact ⟨rfl, rfl⟩
 ·exact ⟨rfl, rfl⟩
 ·have a := went_keep h
  have b := stir_keep ({ G with row := l } : PGroup)
  exact ⟨a.1.trans b.1, a.2.trans b.2⟩
theorem gives_succ {k : Nat} {G G' : PGroup} (h : PGroup.gives (k + 1) G = some G') : (∃ G1, G.give = some (false, G1) ∧ G1 = G') ∨ ∃ G1, G.give = some (true, G1) ∧ PGroup.gives k G1 = some G' := by
 rw [PGroup.gives] at h
 cases hg : G.give with
 | none => rw [hg] at h; cases h
 | some q =>
  obtain ⟨b, G1⟩ := q
  rw [hg] at h
  cases b with
  | false => exact .inl ⟨G1, rfl, by simpa using h⟩
  | true => exact .inr ⟨G1, rfl, h⟩
theorem settle_succ {k : Nat} {G G' : PGroup} (h : PGroup.settle (k + 1) G = some G') : ∃ G1 G2, G.ticksN G.n 0 = some G1 ∧ PGroup.gives 2000 G1 = some G2 ∧ PGroup.settle k G2 = some G' := by
 rw [PGroup.settle] at h
 cases ht : G.ticksN G.n 0 with
 | none => rw [ht] at h; cases h
 | some G1 =>
  rw [ht] at h
  dsimp only at h
  cases hg : PGroup.gives 2000 G1 with
  | none => rw [hg] at h; cases h
  | some G2 =>
   rw [hg] at h
   exact ⟨G1, G2, rfl, hg, h⟩
end Go.Proofs.YtgglbholbkdgfaaGreatDoor
namespace Go.Proofs.YtgglbholbkdgfaaGreatDoor
open Go.RowKit
set_option maxRecDepth 100000 in
set_option maxHeartbeats 4000000 in
theorem settle_any {φ : List UInt8 → List UInt8} (hφ : Tok φ) (g k : Nat) (FS : Nat → Nat → Prop) (G G' : PGroup) (ms : List MInfo) (rv : Value) (w : World) (hk : k ≤ 2000) (h : GAt w g FS φ G ms rv) (hall : G.mem.length = G.n) (hs : PGroup.settle k G = some G') :
  Calls Tryz.prog 29 #[.pointer (some ⟨g, 0, none⟩), .int .i64 (k : Int)] w fun e w' => e = .returned (.tuple #[]) ∧ GStep w w' g FS φ G' := by
 have H := Lib.hid (And.intro (GStep.refl h) (And.intro hall hs))
 clear h hall hs
 have hmin : min (2000 : Int) (k : Int) = (k : Int) := by omega
 have hmax : max (0 : Int) (k : Int) = (k : Int) := by omega
 go_enter Tryz.func29, Tryz.ntmps29
 go_wp2_with fail
 go_loopw [4, 10] (fun _ i wr => ∃ (j : Nat) (Gj : PGroup), i = .int .i64 (j : Int) ∧ j ≤ k ∧ Hid (GStep w wr g FS φ Gj ∧ Gj.mem.length = Gj.n ∧ PGroup.settle (k - j) Gj = some G')) (fun _ i _ => k - (intOf i).toNat)
 case atStart => exact ⟨0, G, rfl, by omega, H⟩
 case round =>
  obtain ⟨j, Gj, rfl, hj, HJ⟩ := hrel
  by_cases hlt : j < k
  ·have hlt' : (j : Int) < (k : Int) := by omega
   obtain ⟨G1, G2, h1, h2, h3⟩ : ∃ G1 G2, Gj.ticksN Gj.n 0 = some G1 ∧ PGroup.gives 2000 G1 = some G2 ∧ PGroup.settle (k - (j + 1)) G2 = some G' := by
    have := HJ.out.2.2
    obtain ⟨q, hq⟩ : ∃ q, k - j = q + 1 := ⟨k - j - 1, by omega⟩
    rw [hq] at this
    rw [show k - (j + 1) = q by omega]
    exact settle_succ this
   obtain ⟨⟨FS1, ms1, rv1, hA, hX, hF⟩, hallj, _⟩ := HJ.out
   have kt := ticksN_keep _ _ _ _ h1
   have Htick := Lib.hid (ticks_any hφ g FS1 Gj G1 ms1 rv1 wr hA h1)
   have Hn := Lib.hid (And.intro (show G1.mem.length = G1.n by rw [kt.1, kt.2]; exact hallj) (And.intro h2 h3))
   have HXF := Lib.hid (And.intro hX hF)
   have hwj : IntKind.i64.wrap ((j : Int) + 1) = (j : Int) + 1 := IntWalk.i64_in _ (by omega)
   clear hA hX hF hallj kt h1 h2 h3
   go_wp2_with fail
   refine Htick.out.mono ?_; rintro e w2 ⟨rfl, hst⟩
   have Hst := Lib.hid (GStep.trans HXF.out.1 HXF.out.2 hst)
   clear hst
   go_wp2_with fail
   go_loopw [4] (fun v wr => ∃ (j2 : Nat) (Gi : PGroup), v = .int .i64 (j2 : Int) ∧ j2 ≤ 2000 ∧ Hid (GStep w wr g FS φ Gi ∧ Gi.mem.length = Gi.n ∧ PGroup.gives (2000 - j2) Gi = some G2)) (fun v _ => 2000 - (intOf v).toNat)
   case atStart => exact ⟨0, G1, rfl, by omega, Lib.hid ⟨Hst.out, Hn.out.1, Hn.out.2.1⟩⟩
   case round =>
    obtain ⟨j2, Gi, rfl, hj2, HI⟩ := hrel
    by_cases hl2 : j2 < 2000
    ·have hl2' : (j2 : Int) < 2000 := by omega
     have hw2 : IntKind.i64.wrap ((j2 : Int) + 1) = (j2 : Int) + 1 := IntWalk.i64_in _ (by omega)
     obtain ⟨⟨FS2, ms2, rv2, hA2, hX2, hF2⟩, hall2, hg2⟩ := HI.out
     obtain ⟨q2, hq2⟩ : ∃ q, 2000 - j2 = q + 1 := ⟨2000 - j2 - 1, by omega⟩
     rw [hq2] at hg2
     have hq3 : 2000 - (j2 + 1) = q2 := by omega
     have HX2 := Lib.hid (And.intro hX2 hF2)
     rcases gives_succ hg2 with ⟨G3, hgv, rfl⟩ | ⟨G3, hgv, hgs⟩
     ·have Hgive := Lib.hid (gives_any hφ g FS2 Gi G3 false ms2 rv2 _ hA2 hall2 hgv)
      have kg := give_keep hgv
      have Hall3 := Lib.hid (show G3.mem.length = G3.n by rw [kg.1, kg.2]; exact hall2)
      clear hA2 hX2 hF2 hall2 hg2 hgv kg hq2 hq3
      go_wp2_with fail
      refine Hgive.out.mono ?_; rintro e w3 ⟨rfl, hst⟩
      have Hst3 := Lib.hid (GStep.trans HX2.out.1 HX2.out.2 hst)
      clear hst
      go_wp2_with fail
      go_roundw
      case rel => exact ⟨j + 1, G3, by go_num, by omega, Lib.hid ⟨Hst3.out, Hall3.out, Hn.out.2.2⟩⟩
      case measure => simp [intOf]; omega
     ·have Hgive := Lib.hid (gives_any hφ g FS2 Gi G3 true ms2 rv2 _ hA2 hall2 hgv)
      have kg := give_keep hgv
      have Hall3 := Lib.hid (And.intro (show G3.mem.length = G3.n by rw [kg.1, kg.2]; exact hall2) (show PGroup.gives (2000 - (j2 + 1)) G3 = some G2 by rw [hq3]; exact hgs))
      clear hA2 hX2 hF2 hall2 hg2 hgv kg hq2 hq3 hgs
      go_wp2_with fail
      refine Hgive.out.mono ?_; rintro e w3 ⟨rfl, hst⟩
      have Hst3 := Lib.hid (GStep.trans HX2.out.1 HX2.out.2 hst)
      clear hst
      go_wp2_with fail
      go_roundw
      case rel => exact ⟨j2 + 1, G3, by go_num, by omega, Lib.hid ⟨Hst3.out, Hall3.out.1, Hall3.out.2⟩⟩
      case measure => simp [intOf]; omega
    ·obtain rfl : j2 = 2000 := by omega
     have hGG : Gi = G2 := by
      have := HI.out.2.2
      rw [Nat.sub_self, PGroup.gives] at this
      exact Option.some.inj this
     subst hGG
     have hl2' : ¬ (((2000 : Nat) : Int) < 2000) := by omega
     have hld : decide (((2000 : Nat) : Int) < 2000) = false := decide_eq_false hl2'
     go_wp2_with fail
     go_roundw
     case rel => exact ⟨j + 1, Gi, by go_num, by omega, Lib.hid ⟨HI.out.1, HI.out.2.1, Hn.out.2.2⟩⟩
     case measure => simp [intOf]; omega
  ·obtain rfl : j = k := by omega
   have hGG : Gj = G' := by
    have := HJ.out.2.2
    rw [Nat.sub_self, PGroup.settle] at this
    exact Option.some.inj this
   subst hGG
   go_wp2_with fail
   go_end0
   exact ⟨rfl, HJ.out.1⟩
end Go.Proofs.YtgglbholbkdgfaaGreatDoor
namespace Go.Proofs.YtgglbholbkdgfaaGreatDoor
open Go.RowKit
def freshArr (d : Nat) : Array Value := #[.pointer (some ⟨d, 0, none⟩), .pointer none, .slice none 0 0]
def StartEnds (g mb d i n dr : Nat) (F : Nat → Prop) (gs : Array Value) (w : World) (e : Ending) (w' : World) : Prop :=
 e = .returned (.tuple #[]) ∧ Ext (fun b => b = g ∨ b = mb ∨ F b) w w' ∧ w'.heap[g]? = some (.cells (gs.setIfInBounds 7 (.int .u32 (stirN dr))) 118 (0, 0)) ∧ ∃ r, w'.heap[mb]? = some (.cells (memArr d r (.slice none 0 0)) 120 (0, 0)) ∧ RaftIs w' r d (Gr F w w') (newNode i n ((stirN dr / 256 : Nat) : Int)) 1048576 false
set_option maxRecDepth 100000 in
set_option maxHeartbeats 4000000 in
theorem starts_new (g mb d i n dr : Nat) (F : Nat → Prop) (gs : Array Value) (w : World) (hb : w.heap[g]? = some (.cells gs 118 (0, 0))) (h7 : gs[7]? = some (.int .u32 dr)) (h0 : gs[0]? = some (.int .i64 (n : Int))) (hp : gs[1 + i]? = some (.pointer (some ⟨mb, 0, none⟩))) (hdr : dr < 2147483648)
  (hmb : w.heap[mb]? = some (.cells (freshArr d) 120 (0, 0))) (hd : DiskIs w d F ⟨1048576, []⟩) (hid : i < n) (hn : n = 1 ∨ n = 3 ∨ n = 5) (hgF : ¬ F g) (hmF : ¬ F mb) :
  Calls Tryz.prog 57 #[.pointer (some ⟨g, 0, none⟩), .int .i64 (i : Int)] w (StartEnds g mb d i n dr F gs w) := by
 have c0 : w.cell? ⟨g, 0, none⟩ = some (.int .i64 (n : Int)) := by rw [cell_of_blk hb]; exact h0
 have cp : w.cell? ⟨g, 1 + i, none⟩ = some (.pointer (some ⟨mb, 0, none⟩)) := by rw [cell_of_blk hb]; exact hp
 have cd : w.cell? ⟨mb, 0, none⟩ = some (.pointer (some ⟨d, 0, none⟩)) := by rw [cell_of_blk hmb]; rfl
 have hmg : mb ≠ g := fun e => by rw [e, hb] at hmb; cases hmb
 have hi0 : (0 : Int) ≤ (i : Int) := by omega
 have hi5 : (i : Int) < 5 := by omega
 have hin : ((i : Int)).toNat = i := by omega
 obtain ⟨dw, hdw⟩ : ∃ dw, stirN dr / 256 = dw := ⟨_, rfl⟩
 obtain ⟨d2, hd2⟩ : ∃ d2, stirN dr = d2 := ⟨_, rfl⟩
 have hdraw := fun (w' : World) (x : Ext NoB w w') => draw_any g dr gs w' (x.blk hb (fun h => h)) h7 hdr
 unfold StartEnds
 rw [hdw] at hdraw ⊢
 rw [hd2] at hdraw ⊢
 have Hdraw := Lib.hid hdraw
 have Hmb := Lib.hid hmb
 have H0 := Lib.hid h0
 have Hd := Lib.hid (And.intro hd (And.intro hid (And.intro hn (And.intro hgF hmF))))
 clear hb h7 h0 hp hmb hd hid hn hgF hmF hdraw hdw hd2
 go_enter Tryz.func57, Tryz.ntmps57
 go_wp2_with fail
 refine wp_region_N (fun w' => w'.cell? ⟨g, 0, none⟩ = some (.int .i64 (n : Int)) ∧ w'.cell? ⟨mb, 0, none⟩ = some (.pointer (some ⟨d, 0, none⟩))) 15 (by kernel_rfl) ?_
 have hSd : w.drew.cell? ⟨g, 0, none⟩ = some (.int .i64 (n : Int)) ∧ w.drew.cell? ⟨mb, 0, none⟩ = some (.pointer (some ⟨d, 0, none⟩)) := ⟨c0, cd⟩
 have xd : Ext NoB w w.drew := (Ext.refl _ w).drew
 generalize w.drew = wd at hSd xd ⊢
 refine wpAnyN_free 0 (v := ?_) (by kernel_rfl) rfl (fun _ _ _ h => h) hSd (by rfl) ?_ ?_; rotate_left; (focus (intro w; go_simp; try with_reducible rfl)); (try simp only [Act.put]); (try simp only [List.setIfInBounds_toArray, List.set_cons_zero, List.set_cons_succ])
 refine wpAnyN_free 1 (v := ?_) (by kernel_rfl) rfl (fun _ _ _ h => h) hSd (by rfl) ?_ ?_; rotate_left; (focus (intro w; go_simp; try with_reducible rfl)); (try simp only [Act.put]); (try simp only [List.setIfInBounds_toArray, List.set_cons_zero, List.set_cons_succ])
 refine wpAnyN_free 2 (v := ?_) (by kernel_rfl) rfl (fun _ _ _ h => h) hSd (by rfl) ?_ ?_; rotate_left; (focus (intro w; go_simp; try with_reducible rfl)); (try simp only [Act.put]); (try simp only [List.setIfInBounds_toArray, List.set_cons_zero, List.set_cons_succ])
 refine wpAnyN_free 3 (v := ?_) (by kernel_rfl) rfl (fun _ _ _ h => h) hSd (by rfl) ?_ ?_; rotate_left; (focus (intro w; go_simp; try with_reducible rfl)); (try simp only [Act.put]); (try simp only [List.setIfInBounds_toArray, List.set_cons_zero, List.set_cons_succ])
 refine wpAnyN_take 4 (v := ?_) (by kernel_rfl) rfl (fun _ _ _ h => h) hSd (by rfl) ?_ ?_; rotate_left; (focus (intro w hSw; (try dsimp only at hSw); go_simp; try with_reducible rfl)); (try simp only [Act.put]); (try simp only [List.setIfInBounds_toArray, List.set_cons_zero, List.set_cons_succ])
 refine wpAnyN_free 5 (v := ?_) (by kernel_rfl) rfl (fun _ _ _ h => h) hSd (by rfl) ?_ ?_; rotate_left; (focus (intro w; go_simp; try with_reducible rfl)); (try simp only [Act.put]); (try simp only [List.setIfInBounds_toArray, List.set_cons_zero, List.set_cons_succ])
 refine wpAnyN_free 6 (v := ?_) (by kernel_rfl) rfl (fun _ _ _ h => h) hSd (by rfl) ?_ ?_; rotate_left; (focus (intro w; go_simp; try with_reducible rfl)); (try simp only [Act.put]); (try simp only [List.setIfInBounds_toArray, List.set_cons_zero, List.set_cons_succ])
 refine wpAnyN_free 7 (v := ?_) (by kernel_rfl) rfl (fun _ _ _ h => h) hSd (by rfl) ?_ ?_; rotate_left; (focus (intro w; go_simp; try with_reducible rfl)); (try simp only [Act.put]); (try simp only [List.setIfInBounds_toArray, List.set_cons_zero, List.set_cons_succ])
 refine wpAnyN_take 8 (v := ?_) (by kernel_rfl) rfl (fun _ _ _ h => h) hSd (by rfl) ?_ ?_; rotate_left; (focus (intro w hSw; (try dsimp only at hSw); go_simp; try with_reducible rfl)); (try simp only [Act.put]); (try simp only [List.setIfInBounds_toArray, List.set_cons_zero, List.set_cons_succ])
 refine wpAnyN_free 9 (v := ?_) (by kernel_rfl) rfl (fun _ _ _ h => h) hSd (by rfl) ?_ ?_; rotate_left; (focus (intro w; go_simp; try with_reducible rfl)); (try simp only [Act.put]); (try simp only [List.setIfInBounds_toArray, List.set_cons_zero, List.set_cons_succ])
 refine wpAnyN_one 10 (by kernel_rfl) (by simp only [List.getElem?_toArray, List.getElem?_cons_succ, List.getElem?_cons_zero] <;> rfl) (by rfl) (fun K hK => ?_)
 go_simp
 refine (Hdraw.out wd xd).mono ?_; rintro e w1 ⟨rfl, hg1, x1⟩
 have hS1 : w1.cell? ⟨g, 0, none⟩ = some (.int .i64 (n : Int)) ∧ w1.cell? ⟨mb, 0, none⟩ = some (.pointer (some ⟨d, 0, none⟩)) := ⟨by
  rw [cell_of_blk hg1, Array.getElem?_setIfInBounds]
  exact H0.out, x1.cell hSd.2 hmg⟩
 have Hg1 := Lib.hid hg1
 have Hx1 := Lib.hid (And.intro xd x1)
 clear hg1 x1 xd
 go_wp2_with fail
 refine hK.out _ _ hS1 (fun hSd => ?_)
 clear hK K hSd
 have hSd := hS1
 (try simp only [Act.put]); (try simp only [List.setIfInBounds_toArray, List.set_cons_zero, List.set_cons_succ])
 refine wpAnyN_one 11 (by kernel_rfl) (by simp only [List.getElem?_toArray, List.getElem?_cons_succ, List.getElem?_cons_zero] <;> rfl) (by rfl) (fun K hK => ?_)
 go_simp
 obtain ⟨hd, hid, hn, hgF, hmF⟩ := Hd.out
 have hd1 : DiskIs w1 d F ⟨1048576, []⟩ := (hd.no Hx1.out.1).ext Hx1.out.2 (fun b hb hb' => hgF (by obtain rfl : b = g := hb'; exact hb))
 refine (Open_new i n d F 1048576 (dw : Int) w1 hd1 hid hn).mono ?_; rintro e w2 ⟨r, rfl, x2, hR⟩
 have hS2 := And.intro (x2.cell hS1.1 hgF) (x2.cell hS1.2 hmF)
 have HR := Lib.hid hR
 have Hx2 := Lib.hid x2
 clear hd hid hn hd1 x2 hR hS1
 go_wp2_with fail
 refine hK.out _ _ hS2 (fun hSd => ?_)
 clear hK K hSd
 have hSd := hS2
 (try simp only [Act.put]); (try simp only [List.setIfInBounds_toArray, List.set_cons_zero, List.set_cons_succ])
 refine wpAnyN_free 12 (v := ?_) (by kernel_rfl) rfl (fun _ _ _ h => h) hSd (by rfl) ?_ ?_; rotate_left; (focus (intro w; go_simp; try with_reducible rfl)); (try simp only [Act.put]); (try simp only [List.setIfInBounds_toArray, List.set_cons_zero, List.set_cons_succ])
 refine wpAnyN_free 13 (v := ?_) (by kernel_rfl) rfl (fun _ _ _ h => h) hSd (by rfl) ?_ ?_; rotate_left; (focus (intro w; go_simp; try with_reducible rfl)); (try simp only [Act.put]); (try simp only [List.setIfInBounds_toArray, List.set_cons_zero, List.set_cons_succ])
 refine wpAnyN_free 14 (v := ?_) (by kernel_rfl) rfl (fun _ _ _ h => h) hSd (by rfl) ?_ ?_; rotate_left; (focus (intro w; go_simp; try with_reducible rfl)); (try simp only [Act.put]); (try simp only [List.setIfInBounds_toArray, List.set_cons_zero, List.set_cons_succ])
 refine wpAnyN_tail (by rfl) (by decide) (by kernel_rfl) (by kernel_rfl) ?_
 simp only [List.drop_succ_cons, List.drop_zero]
 have hm2 : w2.heap[mb]? = some (.cells (freshArr d) 120 (0, 0)) := Hx2.out.blk (Hx1.out.2.blk (Hx1.out.1.blk Hmb.out (fun h => h)) hmg) hmF
 have hg2 := Hx2.out.blk Hg1.out hgF
 have k1 : w2.cell? ⟨mb, 1, none⟩ = some (.pointer none) := by rw [cell_of_blk hm2]; rfl
 have k2 : w2.cell? ⟨mb, 2, none⟩ = some (.slice none 0 0) := by rw [cell_of_blk hm2]; rfl
 have f1 : w2.frozen? ⟨mb, 1, none⟩ = false := frozen_of_blk hm2 1
 have f2 : w2.frozen? ⟨mb, 2, none⟩ = false := frozen_of_blk hm2 2
 have Hm2 := Lib.hid hm2
 have Hg2 := Lib.hid hg2
 clear hm2 hg2 hS2 hSd
 go_wp2_with fail
 go_end0
 have km := blk_setCell (blk_setCell Hm2.out 1 (.pointer (some ⟨r, 0, none⟩))) 2 (.slice none 0 0)
 have kg := blk_setCell_ne (p := ⟨mb, 2, none⟩) (blk_setCell_ne (p := ⟨mb, 1, none⟩) Hg2.out (fun h => hmg h.symm) (.pointer (some ⟨r, 0, none⟩))) (fun h => hmg h.symm) (.slice none 0 0)
 have xs := ((Ext.refl (fun b => b = mb) w2).setCell (p := ⟨mb, 1, none⟩) (.inl rfl) (.pointer (some ⟨r, 0, none⟩))).setCell (p := ⟨mb, 2, none⟩) (.inl rfl) (.slice none 0 0)
 generalize ((w2.setCell ⟨mb, 1, none⟩ (.pointer (some ⟨r, 0, none⟩))).setCell ⟨mb, 2, none⟩ (.slice none 0 0)) = w3 at km kg xs ⊢
 have s1 := (Hx1.out.1.of_no.trans Hx1.out.2).size
 have s2 := Hx2.out.size
 have s3 := xs.size
 have hmw : mb < w.heap.size := lt_of_blk Hmb.out
 have hFlt := Hd.out.1.lt
 refine ⟨rfl, ((Hx1.out.1.of_no.trans (Hx1.out.2.mono (fun b _ h => .inl h))).trans (Hx2.out.mono (fun b _ h => .inr (.inr h)))).trans (xs.mono (fun b _ h => .inr (.inl h))), kg, r, km, (HR.out.ext xs (fun b hb hb' => ?_)).wide (fun b hb => ?_) (fun b hb => ?_)⟩
 ·obtain rfl : b = mb := hb'
  rcases hb with h | h
  ·exact Hd.out.2.2.2.2 h
  ·omega
 ·rcases hb with h | h
  ·exact .inl h
  ·exact .inr ⟨by omega, by omega⟩
 ·rcases hb with h | h
  ·have := hFlt b h
   omega
  ·exact h.2
end Go.Proofs.YtgglbholbkdgfaaGreatDoor
namespace Go.Proofs.YtgglbholbkdgfaaGreatDoor
open Go.RowKit
theorem groupArr_grow (n : Nat) (ms : List MInfo) (x : MInfo) (rv : Value) (d : Nat) (h : ms.length < 5) : (groupArr n ms rv d).setIfInBounds (1 + ms.length) (.pointer (some ⟨x.mb, 0, none⟩)) = groupArr n (ms ++ [x]) rv d := by
 match ms, h with
 | [], _ => rfl
 | [_], _ => rfl
 | [_, _], _ => rfl
 | [_, _, _], _ => rfl
 | [_, _, _, _], _ => rfl
theorem snoc_get {α : Type} {l : List α} {a y : α} {i : Nat} (h : (l ++ [a])[i]? = some y) : (i < l.length ∧ l[i]? = some y) ∨ (i = l.length ∧ y = a) := by
 rcases Nat.lt_or_ge i l.length with h1 | h1
 ·rw [List.getElem?_append_left h1] at h
  exact .inl ⟨h1, h⟩
 ·rw [List.getElem?_append_right h1] at h
  have h2 : i - l.length = 0 := by
   rcases Nat.eq_zero_or_pos (i - l.length) with h3 | h3
   ·exact h3
   ·rw [List.getElem?_eq_none (by simp; omega)] at h; cases h
  rw [h2] at h
  cases h
  exact .inr ⟨by omega, rfl⟩
theorem GAt.grow {w w' : World} {g : Nat} {FS : Nat → Nat → Prop} {φ : List UInt8 → List UInt8} {G : PGroup} {ms : List MInfo} {rv : Value} (h : GAt w g FS φ G ms rv) {mb d r d' : Nat} {F1 : Nat → Prop} {N : PNode} (hlen : ms.length < 5)
  (hg : w'.heap[g]? = some (.cells (groupArr G.n (ms ++ [⟨mb, d, .pointer (some ⟨r, 0, none⟩), .slice none 0 0⟩]) rv d') 118 (0, 0))) (x : Ext (fun b => b = g) w w') (hmw : w.heap.size ≤ mb) (hmb : w'.heap[mb]? = some (.cells (memArr d r (.slice none 0 0)) 120 (0, 0)))
  (hF1 : ∀ b, F1 b → w.heap.size ≤ b ∧ b < w'.heap.size ∧ b ≠ mb) (hN : NodeQ w' r d F1 φ N) (hd' : d' < 2147483648) :
  ∃ FS', GAt w' g FS' φ { G with draws := d', mem := G.mem ++ [⟨true, N, []⟩] } (ms ++ [⟨mb, d, .pointer (some ⟨r, 0, none⟩), .slice none 0 0⟩]) rv ∧ ∀ k b, FS' k b → FS k b ∨ w.heap.size ≤ b := by
 obtain ⟨FS', hFS⟩ : ∃ FS' : Nat → Nat → Prop, FS' = fun k b => if k = ms.length + 1 then F1 b else (FS k b ∨ (k = 0 ∧ b = mb)) := ⟨_, rfl⟩
 have hmbl := lt_of_blk hmb
 have hF : FS' (ms.length + 1) = F1 := by rw [hFS]; funext b; exact if_pos rfl
 have h0 : ∀ b, FS 0 b → FS' 0 b := fun b hb => by rw [hFS]; show if _ then _ else _; rw [if_neg (by omega)]; exact .inl hb
 have hm0 : FS' 0 mb := by rw [hFS]; show if _ then _ else _; rw [if_neg (by omega)]; exact .inr ⟨rfl, rfl⟩
 have hsz := x.size
 have hd : ∀ j k b, j ≠ k → FS j b → ¬ FS k b := fun j k b hjk h1 h2 => hjk (h.apart _ _ _ h1 h2)
 have hgs := h.lt 0 g h.self
 have hcase : ∀ k b, FS' k b → (k ≠ ms.length + 1 ∧ FS k b ∧ b < w.heap.size) ∨ (k = ms.length + 1 ∧ F1 b) ∨ (k = 0 ∧ b = mb) := fun k b hb => by
  rw [hFS] at hb
  by_cases hk : k = ms.length + 1
  ·replace hb : F1 b := by simpa [hk] using hb
   exact .inr (.inl ⟨hk, hb⟩)
  ·replace hb : FS k b ∨ (k = 0 ∧ b = mb) := by simpa [hk] using hb
   rcases hb with hb | hb
   ·exact .inl ⟨hk, hb, h.lt k b hb⟩
   ·exact .inr (.inr hb)
 refine ⟨FS', ⟨hg, h0 g h.self, fun k b hb => ?_, fun j k b hj hk => ?_, ?_, hd', h.n, ?_, ?_, fun j y m hy hm => ?_, fun j k y z hy hz e => ?_, h.flight, fun j k y z b hy hz e1 e2 => ?_⟩, fun k b hb => ?_⟩
 ·rcases hcase k b hb with ⟨_, _, h1⟩ | ⟨_, h1⟩ | ⟨_, h1⟩
  ·omega
  ·exact (hF1 b h1).2.1
  ·omega
 ·rcases hcase j b hj with ⟨a1, a2, a3⟩ | ⟨a1, a2⟩ | ⟨a1, a2⟩ <;> rcases hcase k b hk with ⟨b1, b2, b3⟩ | ⟨b1, b2⟩ | ⟨b1, b2⟩
  ·exact h.apart _ _ _ a2 b2
  ·have := hF1 b b2; omega
  ·omega
  ·have := hF1 b a2; omega
  ·omega
  ·have := hF1 b a2; omega
  ·omega
  ·have := hF1 b b2; omega
  ·omega
 ·have hty : ∀ b, b = g → FS 0 b → ∃ cs t fr, w.heap[b]? = some (.cells cs t fr) ∧ t ≠ 3 ∧ t ≠ 5 := fun b hb _ => ⟨_, _, _, hb ▸ h.blk, by decide, by decide⟩
  refine (h.row.ty x hty (fun b hb hb' => ?_)).mono h0
  obtain ⟨_, _, h1, _⟩ := h.row
  exact h1.ne_blk (hb' ▸ h.blk) (by decide) b hb rfl
 ·rw [List.length_append, List.length_append, h.len]
  rfl
 ·rw [List.length_append, List.length_singleton]
  omega
 ·rcases snoc_get hy with ⟨h1, h2⟩ | ⟨h1, h2⟩
  ·rcases snoc_get hm with ⟨h3, h4⟩ | ⟨h3, h4⟩
   ·have hmi := h.mem j y m h2 h4
    have hFj : FS' (j + 1) = FS (j + 1) := by
     rw [hFS]
     funext b
     apply propext
     show (if j + 1 = ms.length + 1 then _ else _) ↔ _
     rw [if_neg (by omega)]
     exact ⟨fun hb => hb.elim id (fun hb => by omega), .inl⟩
    rw [hFj]
    refine (⟨x.blk hmi.blk (fun e => ?_), hmi.own, hmi.node.ext x (fun b hb hb' => ?_), hmi.tak.ty x (fun b hb => ?_)⟩ : MemAt w' (FS 0) (FS (j + 1)) φ y m).wide h0
    ·have := hmi.blk
     rw [e, h.blk] at this
     cases this
    ·exact hd (j + 1) 0 b (by omega) hb (by obtain rfl : b = g := hb'; exact h.self)
    ·exact ⟨_, _, _, hb ▸ h.blk, by decide, by decide⟩
   ·rw [← h.len] at h3; omega
  ·rcases snoc_get hm with ⟨h3, h4⟩ | ⟨h3, h4⟩
   ·rw [← h.len] at h3; omega
   ·subst h2
    subst h4
    rw [h1, hF]
    exact ⟨hmb, hm0, .inl ⟨rfl, r, rfl, hN⟩, [], .nil, Own.nil _ _ _, fun b hb => (by cases hb), fun u hu => (by cases hu)⟩
 ·have hold : ∀ (k : Nat) (y : MInfo), ms[k]? = some y → y.mb < w.heap.size := fun k y hy => by
   have : k < G.mem.length := by
    rw [← h.len]
    rcases Nat.lt_or_ge k ms.length with h1 | h1
    ·exact h1
    ·rw [List.getElem?_eq_none h1] at hy; cases hy
   exact lt_of_blk (h.mem k y _ hy (List.getElem?_eq_getElem this)).blk
  rcases snoc_get hy with ⟨h1, h2⟩ | ⟨h1, h2⟩ <;> rcases snoc_get hz with ⟨h3, h4⟩ | ⟨h3, h4⟩
  ·exact h.mbs j k y z h2 h4 e
  ·have h6 := hold j y h2
   rw [e, h4] at h6
   dsimp only at h6
   omega
  ·have h6 := hold k z h4
   rw [← e, h2] at h6
   dsimp only at h6
   omega
  ·omega
 ·rcases snoc_get hy with ⟨h1, h2⟩ | ⟨h1, h2⟩ <;> rcases snoc_get hz with ⟨h3, h4⟩ | ⟨h3, h4⟩
  ·exact h.tks j k y z b h2 h4 e1 e2
  ·rw [h4] at e2; cases e2
  ·rw [h2] at e1; cases e1
  ·omega
 ·rcases hcase k b hb with ⟨_, h1, _⟩ | ⟨_, h1⟩ | ⟨_, h1⟩
  ·exact .inl h1
  ·exact .inr (hF1 b h1).1
  ·exact .inr (by omega)
end Go.Proofs.YtgglbholbkdgfaaGreatDoor
namespace Go.Proofs.YtgglbholbkdgfaaGreatDoor
open Go.RowKit
def GNew (w w' : World) (g : Nat) (φ : List UInt8 → List UInt8) (G : PGroup) : Prop := ∃ FS ms rv, GAt w' g FS φ G ms rv ∧ Ext NoB w w' ∧ ∀ k b, FS k b → w.heap.size ≤ b
def PGroup.add (n : Nat) (G : PGroup) : PGroup := { G with draws := stirN G.draws, mem := G.mem ++ [⟨true, newNode G.mem.length n ((stirN G.draws / 256 : Nat) : Int), []⟩] }
def PGroup.made (n : Nat) : Nat → PGroup → PGroup
 | 0, G => G
 | k + 1, G => PGroup.made n k (G.add n)
def PGroup.newG (n : Nat) : PGroup := PGroup.made n n ⟨n, [], [], 1⟩
theorem made_succ (n k : Nat) (G : PGroup) : PGroup.made n (k + 1) G = PGroup.made n k (G.add n) := by rw [PGroup.made]
theorem GAt.first {w : World} {g n : Nat} (φ : List UInt8 → List UInt8) (hn : n ≤ 5) (hb : w.heap[g]? = some (.cells (groupArr n [] (.slice none 0 0) 1) 118 (0, 0))) : GAt w g (fun k b => k = 0 ∧ b = g) φ ⟨n, [], [], 1⟩ [] (.slice none 0 0) where
 blk := hb
 self := ⟨rfl, rfl⟩
 lt := fun k b hb' => hb'.2 ▸ lt_of_blk hb
 apart := fun j k b hj hk => hj.1.trans hk.1.symm
 row := ⟨[], trivial, Own.nil _ _ _, fun b hb => by cases hb⟩
 draws := by show 1 < 2147483648; omega
 n := hn
 len := rfl
 five := Nat.zero_le _
 mem := fun i x m hx _ => by cases hx
 mbs := fun i j x y hx _ _ => by cases hx
 flight := Nat.zero_le _
 tks := fun i j x y b hx _ _ _ => by cases hx
set_option maxRecDepth 100000 in
set_option maxHeartbeats 4000000 in
theorem NewG_any {φ : List UInt8 → List UInt8} (n : Nat) (hn : n = 1 ∨ n = 3 ∨ n = 5) (w : World) :
  Calls Tryz.prog 27 #[.int .i64 (n : Int)] w fun e w' => ∃ g, e = .returned (.tuple #[.pointer (some ⟨g, 0, none⟩), .int .i64 0]) ∧ GNew w w' g φ (PGroup.newG n) := by
 obtain ⟨Gn, hGn⟩ : ∃ Gn, PGroup.newG n = Gn := ⟨_, rfl⟩
 have HGn : Hid (PGroup.made n n ⟨n, [], [], 1⟩ = Gn) := Lib.hid hGn
 rw [hGn]
 clear hGn
 have Hn := Lib.hid hn
 have hn5 : n ≤ 5 := by omega
 have htest : ((n : Int) != 1) = false ∨ (((n : Int) != 1) = true ∧ ((n : Int) != 3) = false) ∨ (((n : Int) != 1) = true ∧ ((n : Int) != 3) = true ∧ ((n : Int) != 5) = false) := by
  rcases hn with rfl | rfl | rfl
  ·exact .inl rfl
  ·exact .inr (.inl ⟨rfl, rfl⟩)
  ·exact .inr (.inr ⟨rfl, rfl, rfl⟩)
 clear hn
 rcases htest with t1 | ⟨t1, t2⟩ | ⟨t1, t2, t3⟩
 all_goals
  go_enter Tryz.func27, Tryz.ntmps27
  go_wp2_with fail
  obtain ⟨w1, g, e1, e2, x1, b1, hs1⟩ := alloc_facts w (.cells (groupArr n [] (.slice none 0 0) 1) 118)
  unfold groupArr ptrAt at e1
  simp only [List.getElem?_nil] at e1
  rw [show ((1 : Nat) : Int) = 1 from rfl] at e1
  rw [e1, e2]
  have hst : GNew w w1 g φ ⟨n, [], [], 1⟩ := ⟨_, _, _, GAt.first φ hn5 b1, x1, fun k b hb => by have := hb.2; omega⟩
  have Hst := Lib.hid hst
  clear e1 x1 b1 hs1 hst
  go_loopw [5, 6, 7, 22] (fun _ _ _ i wr => ∃ (k : Nat) (Gk : PGroup), i = .int .i64 (k : Int) ∧ k ≤ n ∧ Hid (GNew w wr g φ Gk ∧ Gk.mem.length = k ∧ Gk.n = n ∧ PGroup.made n (n - k) Gk = Gn)) (fun _ _ _ i _ => n - (intOf i).toNat)
  case atStart => exact ⟨0, _, rfl, by omega, Lib.hid ⟨Hst.out, rfl, rfl, HGn.out⟩⟩
  case round =>
   obtain ⟨k, Gk, rfl, hk, HK⟩ := hrel
   by_cases hlt : k < n
   ·have hk0 : (k : Int) < (n : Int) := by omega
    have hwk : IntKind.i64.wrap ((k : Int) + 1) = (k : Int) + 1 := IntWalk.i64_in _ (by omega)
    have hNew := Lib.hid (fun (w' : World) => New_any 1048576 (by omega) w')
    go_wp2_with fail
    refine (hNew.out wr).mono ?_; rintro e w2 ⟨d, rfl, hdw, hdisk, x2⟩
    obtain ⟨⟨FS, ms, rv, hA, hX, hFn⟩, hml, hGn', hmade⟩ := HK.out
    have hlen : ms.length = k := hA.len.trans hml
    have hgb := x2.blk hA.blk (fun h => h)
    have hk5 : k < 5 := by omega
    have ck : w2.cell? ⟨g, 1 + k, none⟩ = some (.pointer none) := by
     rw [cell_of_blk hgb, groupArr_mem _ _ _ _ _ hk5]
     unfold ptrAt
     rw [List.getElem?_eq_none (by omega)]
    have fk : w2.frozen? ⟨g, 1 + k, none⟩ = false := frozen_of_blk hgb (1 + k)
    have hk00 : (0 : Int) ≤ (k : Int) := by omega
    have hk55 : (k : Int) < 5 := by omega
    have hkn : ((k : Int)).toNat = k := by omega
    have hgw := lt_of_blk hgb
    have Hgb := Lib.hid hgb
    have Hx2 := Lib.hid x2
    have Hdisk := Lib.hid (And.intro hdisk hdw)
    have HA := Lib.hid hA
    have HX := Lib.hid (And.intro hX hFn)
    have Hml := Lib.hid (And.intro hml (And.intro hGn' (And.intro hmade hlen)))
    clear hgb x2 hdisk hdw hA hX hFn hml hGn' hmade hlen
    go_wp2_with fail
    have kg := blk_setCell Hgb.out (1 + k) (.pointer (some ⟨w2.heap.size, 0, none⟩))
    have xs := (Ext.refl (fun b => b = g) w2).setCell (p := ⟨g, 1 + k, none⟩) (.inl rfl) (.pointer (some ⟨w2.heap.size, 0, none⟩))
    have hsz : (w2.setCell ⟨g, 1 + k, none⟩ (.pointer (some ⟨w2.heap.size, 0, none⟩))).heap.size = w2.heap.size := by simp [World.setCell]
    obtain ⟨mb, hmb⟩ : ∃ mb, w2.heap.size = mb := ⟨_, rfl⟩
    rw [hmb] at kg xs hsz ⊢
    generalize w2.setCell ⟨g, 1 + k, none⟩ (.pointer (some ⟨mb, 0, none⟩)) = wa at kg xs hsz ⊢
    obtain ⟨w3, B, q1, q2, x3, b3, hs3⟩ := alloc_facts wa (.cells (freshArr d) 120)
    unfold freshArr at q1
    rw [q1]
    have hBm : B = mb := by omega
    rw [hBm] at b3 hs3
    obtain ⟨hml, hGn', hmade, hlen⟩ := Hml.out
    obtain ⟨hdisk, hdw⟩ := Hdisk.out
    have hx2 := Hx2.out
    have hs2 := hx2.size
    have hgr : g < wr.heap.size := lt_of_blk HA.out.blk
    have xw3 : Ext (fun b => b = g) w2 w3 := xs.trans x3.of_no
    have hg3 := x3.blk kg (fun h => h)
    have hd3 : DiskIs w3 d (Gr NoB wr w2) ⟨1048576, []⟩ := hdisk.ext xw3 (fun b hb hb' => by
     obtain rfl : b = g := hb'
     rcases hb with h | h
     ·exact h
     ·omega)
    have hst := starts_new g mb d k n Gk.draws (Gr NoB wr w2) _ w3 hg3 (by rw [← hlen, groupArr_grow _ _ ⟨mb, d, .pointer none, .slice none 0 0⟩ _ _ (by omega)]; rfl) (by rw [← hlen, groupArr_grow _ _ ⟨mb, d, .pointer none, .slice none 0 0⟩ _ _ (by omega), hGn']; rfl) (by
     rw [← hlen, groupArr_grow _ _ ⟨mb, d, .pointer none, .slice none 0 0⟩ _ _ (by omega), groupArr_mem _ _ _ _ _ (by omega)]
     unfold ptrAt
     rw [List.getElem?_append_right (Nat.le_refl _), Nat.sub_self]
     rfl) HA.out.draws b3 hd3 hlt Hn.out (fun h => by
     rcases h with h | h
     ·exact h
     ·omega) (fun h => by
     rcases h with h | h
     ·exact h
     ·omega)
    refine hst.mono ?_; rintro e w4 ⟨rfl, x4, hg4, r, hm4, hR4⟩
    have hs4 := x4.size
    have xr4 : Ext (fun b => b = g) wr w4 := ((hx2.of_no).trans xw3).next x4 (fun b hb hl => by
     rcases hb with h | h | h | h
     ·exact h
     ·omega
     ·exact h.elim
     ·omega)
    have hg4' : w4.heap[g]? = some (.cells (groupArr Gk.n (ms ++ [⟨mb, d, .pointer (some ⟨r, 0, none⟩), .slice none 0 0⟩]) rv (stirN Gk.draws)) 118 (0, 0)) := by
     rw [hg4, ← hlen, groupArr_grow _ _ ⟨mb, d, .pointer (some ⟨r, 0, none⟩), .slice none 0 0⟩ _ _ (by omega), groupArr_draw]
    obtain ⟨FS', hA', hF'⟩ := HA.out.grow (mb := mb) (d := d) (r := r) (d' := stirN Gk.draws) (F1 := Gr (Gr NoB wr w2) w3 w4) (N := newNode k n ((stirN Gk.draws / 256 : Nat) : Int)) (by omega) hg4' xr4 (by omega) hm4 (fun b hb => by
     rcases hb with (h | h) | h
     ·exact h.elim
     ·omega
     ·omega) ⟨false, hR4⟩ (stirN_lt _)
    have hnew : GNew w w4 g φ (Gk.add n) := by
     refine ⟨FS', ms ++ [⟨mb, d, .pointer (some ⟨r, 0, none⟩), .slice none 0 0⟩], rv, ?_, HX.out.1.next xr4 (fun b hb hl => ?_), fun k' b hb => ?_⟩
     ·unfold PGroup.add
      rw [hml]
      exact hA'
     ·have := HX.out.2 0 g HA.out.self
      have hb' : b = g := hb
      omega
     ·rcases hF' k' b hb with h | h
      ·exact HX.out.2 k' b h
      ·have := HX.out.1.size
       omega
    have hmade' : PGroup.made n (n - (k + 1)) (Gk.add n) = Gn := by
     obtain ⟨q, hq⟩ : ∃ q, n - k = q + 1 := ⟨n - k - 1, by omega⟩
     rw [hq, made_succ] at hmade
     rw [show n - (k + 1) = q by omega]
     exact hmade
    have hlen' : (Gk.add n).mem.length = k + 1 := by
     unfold PGroup.add
     show (Gk.mem ++ [_]).length = _
     rw [List.length_append, hml]
     rfl
    have hn' : (Gk.add n).n = n := by unfold PGroup.add; exact hGn'
    have HH := Lib.hid (And.intro hnew (And.intro hlen' (And.intro hn' hmade')))
    clear hnew hlen' hn' hmade' hA' hF' hg4' xr4 hR4 hm4 hg4 x4 hst hd3 hg3 xw3 hdisk hml hGn' hmade hlen kg xs q1 x3 b3
    go_wp2_with fail
    go_roundw
    case rel => exact ⟨k + 1, Gk.add n, by go_num, by omega, HH⟩
    case measure => simp [intOf]; omega
   ·obtain rfl : k = n := by omega
    have hGG : Gk = Gn := by
     have := HK.out.2.2.2
     rw [Nat.sub_self, PGroup.made] at this
     exact this
    subst hGG
    go_wp2_with fail
    go_ret2
    exact ⟨g, rfl, HK.out.1⟩
end Go.Proofs.YtgglbholbkdgfaaGreatDoor
namespace Go.Proofs.YtgglbholbkdgfaaGreatDoor
open Go.RowKit
set_option maxRecDepth 100000 in
set_option maxHeartbeats 4000000 in
theorem stateG (g i : Nat) (FS : Nat → Nat → Prop) (φ : List UInt8 → List UInt8) (G : PGroup) (ms : List MInfo) (rv : Value) (m : PMem) (w : World) (h : GAt w g FS φ G ms rv) (hall : G.mem.length = G.n) (hm : G.mem[i]? = some m) (hup : m.up = true) :
  Calls Tryz.prog 31 #[.pointer (some ⟨g, 0, none⟩), .int .i64 (i : Int)] w fun e w' => e = .returned (.tuple #[.int .i64 (m.N.role : Int), .int .i64 (m.N.term : Int), .bool true]) ∧ GStep w w' g FS φ G := by
 obtain ⟨x, hx⟩ := h.info hm
 obtain ⟨cp, hi5⟩ := h.ptr hx
 have hmi := h.mem i x m hx hm
 have hin : i < G.n := by
  rw [← hall]
  rcases Nat.lt_or_ge i G.mem.length with h1 | h1
  ·exact h1
  ·rw [List.getElem?_eq_none h1] at hm; cases hm
 have c0 : w.cell? ⟨g, 0, none⟩ = some (.int .i64 (G.n : Int)) := by rw [cell_of_blk h.blk]; rfl
 have cm1 : w.cell? ⟨x.mb, 1, none⟩ = some x.p := by rw [cell_of_blk hmi.blk]; rfl
 have hi0 : (0 : Int) ≤ (i : Int) := by omega
 have hi5' : (i : Int) < 5 := by omega
 have hinn : ((i : Int)).toNat = i := by omega
 rcases hmi.node with ⟨_, r, hp, hN⟩ | ⟨h1, _⟩
 ·rw [hp] at cm1
  have H := Lib.hid h
  have HN := Lib.hid hN
  have hhas := hasG g G.n i w c0 hin
  obtain ⟨mb, hmbE⟩ : ∃ mb, x.mb = mb := ⟨_, rfl⟩
  rw [hmbE] at cm1 cp
  clear h hx hm hmi hp hN hmbE hall
  go_enter Tryz.func31, Tryz.ntmps31
  go_wp2_with fail
  refine hhas.mono ?_; rintro e w2 ⟨rfl, rfl⟩
  go_wp2_with fail
  obtain ⟨s, hRI⟩ := HN.out
  obtain ⟨D, ps, hNI, _, _⟩ := hRI.is
  refine (State_any r x.d _ (m.N.sub φ) D ps w2 hNI).mono ?_; rintro e w3 ⟨rfl, x3⟩
  have H3 := Lib.hid (And.intro (H.out.no x3) x3)
  have er : ((m.N.sub φ).role : Int) = (m.N.role : Int) := rfl
  have et : ((m.N.sub φ).term : Int) = (m.N.term : Int) := rfl
  rw [er, et]
  clear hNI hRI x3
  go_wp2_with fail
  go_ret3
  exact ⟨rfl, FS, ms, rv, H3.out.1, H3.out.2.of_no, fun k b hb => .inl ⟨k, hb⟩⟩
 ·rw [hup] at h1; cases h1
end Go.Proofs.YtgglbholbkdgfaaGreatDoor
