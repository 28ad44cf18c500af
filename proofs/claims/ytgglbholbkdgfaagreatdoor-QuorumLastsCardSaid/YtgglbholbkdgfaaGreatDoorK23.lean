/- Joined texts: B118 B119. Each has its own head. -/
import Derived.Test.YtgglbholbkdgfaaGreatDoorK22
set_option linter.unusedVariables false
set_option linter.unusedSimpArgs false
namespace Go.Proofs.YtgglbholbkdgfaaGreatDoor
open Go.RowKit
def knownB : Bool := match PGroup.settle 200 (PGroup.newG 3) with
 | none => false
 | some G => decide (G.mem.length = 3) && decide (G.n = 3) && G.mem.all (fun m => m.up) && decide ((G.mem.map (fun m => m.N.role)).map (fun r => decide (r = 2)) = [true, false, false])
set_option maxRecDepth 100000 in
theorem knownB_true : knownB = true := by decide +kernel
end Go.Proofs.YtgglbholbkdgfaaGreatDoor
namespace Go.Proofs.YtgglbholbkdgfaaGreatDoor
open Go.RowKit
theorem GNew.step {w w1 w2 : World} {g : Nat} {φ : List UInt8 → List UInt8} {FS : Nat → Nat → Prop} {G' : PGroup} (x : Ext NoB w w1) (hF : ∀ k b, FS k b → w.heap.size ≤ b) (h : GStep w1 w2 g FS φ G') : GNew w w2 g φ G' := by
 obtain ⟨FS', ms', rv', h1, h2, h3⟩ := h
 refine ⟨FS', ms', rv', h1, x.next h2 (fun b hb hl => ?_), fun k b hb => ?_⟩
 ·obtain ⟨k, hb⟩ := hb
  have := hF k b hb
  omega
 ·rcases h3 k b hb with ⟨j, h⟩ | h
  ·exact hF j b h
  ·exact Nat.le_trans x.size h
theorem tokNil : Tok (fun _ => []) := ⟨rfl, fun _ => Nat.zero_le _⟩
theorem known_run : ∃ G m0 m1 m2, PGroup.settle 200 (PGroup.newG 3) = some G ∧ G.n = 3 ∧ G.mem = [m0, m1, m2] ∧ m0.up = true ∧ m1.up = true ∧ m2.up = true ∧ m0.N.role = 2 ∧ m1.N.role ≠ 2 ∧ m2.N.role ≠ 2 := by
 have h := knownB_true
 unfold knownB at h
 generalize PGroup.settle 200 (PGroup.newG 3) = o at h ⊢
 cases o with
 | none => cases h
 | some G =>
  simp only [Bool.and_eq_true, decide_eq_true_eq, List.all_eq_true] at h
  obtain ⟨⟨⟨h1, h2⟩, h3⟩, h4⟩ := h
  match hm : G.mem, h1 with
  | [m0, m1, m2], _ =>
   rw [hm] at h3 h4
   simp at h4
   exact ⟨G, m0, m1, m2, rfl, h2, hm, h3 m0 (by simp), h3 m1 (by simp), h3 m2 (by simp), h4.1, h4.2.1, h4.2.2⟩
theorem new3_keep : (PGroup.newG 3).mem.length = (PGroup.newG 3).n := by decide +kernel
set_option maxRecDepth 100000 in
set_option maxHeartbeats 4000000 in
theorem known17_any (w : World) : Calls Tryz.prog 26 #[] w fun e w' => e = .returned (.bool true) ∧ Ext NoB w w' := by
 obtain ⟨G0, hG0⟩ : ∃ G0, PGroup.newG 3 = G0 := ⟨_, rfl⟩
 obtain ⟨G, m0, m1, m2, hrun, hGn, hmem, u0, u1, u2, r0, r1, r2⟩ := known_run
 have hk := new3_keep
 have hnew := NewG_any (φ := fun _ => []) 3 (by omega) w
 rw [hG0] at hrun hk hnew
 have Hnew := Lib.hid hnew
 have Hrun := Lib.hid (And.intro hrun hk)
 have Hm := Lib.hid (And.intro hGn (And.intro hmem (And.intro u0 (And.intro u1 u2))))
 have Hr := Lib.hid (And.intro r0 (And.intro r1 r2))
 clear hnew hrun hk hGn hmem u0 u1 u2 r0 r1 r2 hG0
 go_enter Tryz.func26, Tryz.ntmps26
 go_wp2_with fail
 refine Hnew.out.mono ?_; rintro e w1 ⟨g, rfl, FS, ms, rv, hA, hX, hF⟩
 have Hset := Lib.hid (settle_any tokNil g 200 FS G0 G ms rv w1 (by omega) hA Hrun.out.2 Hrun.out.1)
 have HXF := Lib.hid (And.intro hX hF)
 clear hA hX hF
 go_wp2_with fail
 refine Hset.out.mono ?_; rintro e w2 ⟨rfl, hst⟩
 have Hst := Lib.hid (GNew.step HXF.out.1 HXF.out.2 hst)
 clear hst
 go_wp2_with fail
 go_loopw [3, 4, 5, 6, 7] (fun c i _ _ _ wr => ∃ (k q : Nat), i = .int .i64 (k : Int) ∧ c = .int .i64 (q : Int) ∧ k ≤ 3 ∧ (k = 0 → q = 0) ∧ (1 ≤ k → q = 1) ∧ Hid (GNew w wr g (fun _ => []) G)) (fun _ i _ _ _ _ => 3 - (intOf i).toNat)
 case atStart => exact ⟨0, 0, rfl, rfl, by omega, fun _ => rfl, fun h => by omega, Hst⟩
 case round =>
  obtain ⟨k, q, rfl, rfl, hk, hq0, hq1, HG⟩ := hrel
  by_cases hlt : k < 3
  ·obtain ⟨m, hmk, hup, hrole⟩ : ∃ m, G.mem[k]? = some m ∧ m.up = true ∧ (if k = 0 then m.N.role = 2 else m.N.role ≠ 2) := by
    obtain ⟨_, hmem, u0, u1, u2⟩ := Hm.out
    obtain ⟨r0, r1, r2⟩ := Hr.out
    rw [hmem]
    match k, hlt with
    | 0, _ => exact ⟨m0, rfl, u0, r0⟩
    | 1, _ => exact ⟨m1, rfl, u1, r1⟩
    | 2, _ => exact ⟨m2, rfl, u2, r2⟩
   obtain ⟨FS', ms', rv', hA', hX', hF'⟩ := HG.out
   have hs := stateG g k FS' _ G ms' rv' m _ hA' (by rw [Hm.out.2.1, Hm.out.1]; rfl) hmk hup
   have Hs := Lib.hid hs
   have HX' := Lib.hid (And.intro hX' hF')
   have hk3 : (k : Int) < 3 := by omega
   have hwk : IntKind.i64.wrap ((k : Int) + 1) = (k : Int) + 1 := IntWalk.i64_in _ (by omega)
   have hwq : IntKind.i64.wrap ((q : Int) + 1) = (q : Int) + 1 := IntWalk.i64_in _ (by omega)
   obtain ⟨ro, hro⟩ : ∃ ro, m.N.role = ro := ⟨_, rfl⟩
   rw [hro] at Hs hrole
   clear hs hA' hX' hF' hmk hup hro
   by_cases hk0 : k = 0
   ·rw [if_pos hk0] at hrole
    have hb2 : ((ro : Int) == 2) = true := by rw [hrole]; rfl
    have HQ := Lib.hid (hq0 hk0)
    clear hrole hk0 hq0 hq1
    go_wp2_with fail
    refine Hs.out.mono ?_; rintro e w3 ⟨rfl, hst⟩
    have Hst3 := Lib.hid (GNew.step HX'.out.1 HX'.out.2 hst)
    clear hst
    go_wp2_with fail
    go_roundw
    case rel => exact ⟨k + 1, q + 1, by go_num, by go_num, by omega, fun h => by omega, fun _ => by have := HQ.out; omega, Hst3⟩
    case measure => simp [intOf]; omega
   ·rw [if_neg hk0] at hrole
    have hb2 : ((ro : Int) == 2) = false := beq_eq_false_iff_ne.2 (by omega)
    have HQ := Lib.hid (hq1 (by omega))
    clear hrole hk0 hq0 hq1
    go_wp2_with fail
    refine Hs.out.mono ?_; rintro e w3 ⟨rfl, hst⟩
    have Hst3 := Lib.hid (GNew.step HX'.out.1 HX'.out.2 hst)
    clear hst
    go_wp2_with fail
    go_roundw
    case rel => exact ⟨k + 1, q, by go_num, rfl, by omega, fun h => by omega, fun _ => HQ.out, Hst3⟩
    case measure => simp [intOf]; omega
  ·obtain rfl : k = 3 := by omega
   obtain rfl : q = 1 := hq1 (by omega)
   go_wp2_with fail
   go_ret
   obtain ⟨_, _, _, _, hX', _⟩ := HG.out
   exact ⟨rfl, hX'⟩
end Go.Proofs.YtgglbholbkdgfaaGreatDoor
