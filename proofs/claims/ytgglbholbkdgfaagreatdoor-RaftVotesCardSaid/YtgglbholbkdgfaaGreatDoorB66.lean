/- The law RaftVotes: its walk. -/
import Derived.Test.YtgglbholbkdgfaaGreatDoorK12
import Derived.Test.YtgglbholbkdgfaaGreatDoorK9
set_option linter.unusedVariables false
set_option linter.unusedSimpArgs false
namespace Go.Proofs.YtgglbholbkdgfaaGreatDoor
open Go.RowKit

/-- A message that comes in, at its cells. -/
def AskAt (w : World) (b o : Nat) : Prop :=
  ∃ (fr tt kd : Int) (na da : Option Addr) (nn nc dl dc : Nat), w.cell? ⟨b, o, none⟩ = some (.int .i64 fr) ∧ w.cell? ⟨b, o + 1, none⟩ = some (.int .i64 tt) ∧ w.cell? ⟨b, o + 2, none⟩ = some (.int .i64 kd) ∧ w.cell? ⟨b, o + 3, none⟩ = some (.slice na nn nc) ∧
    w.cell? ⟨b, o + 4, none⟩ = some (.slice da dl dc) ∧ nn ≤ 140737488355328 ∧ dl ≤ 140737488355328 ∧ (nn = 3 → ∃ x y z : Int, Rd w 1 (.slice na 3 nc) (intsV [x, y, z]))
theorem AskAt.no {w w' : World} {b o : Nat} (h : AskAt w b o) (x : Ext NoB w w') : AskAt w' b o := by
  obtain ⟨fr, tt, kd, na, da, nn, nc, dl, dc, h0, h1, h2, h3, h4, h5, h6, h7⟩ := h
  refine ⟨fr, tt, kd, na, da, nn, nc, dl, dc, x.cell h0 (fun h => h), x.cell h1 (fun h => h), x.cell h2 (fun h => h), x.cell h3 (fun h => h), x.cell h4 (fun h => h), h5, h6, fun e => ?_⟩
  obtain ⟨a, b, c, hR⟩ := h7 e
  exact ⟨a, b, c, hR.no x⟩
/-- What holds ahead of each message. -/
structure VotesInv (W wr : World) (d r : Nat) (F : Nat → Prop) (N : PNode) (s : Bool) (rec : List (Nat × Int)) (vt vw : Value) (i : Nat) : Prop where
  ext : Ext NoB W wr
  above : ∀ b, F b → W.heap.size ≤ b
  raft : RaftIs wr r d F N 1048576 s
  bare : Bare N
  recs : RecOk N rec
  few : rec.length ≤ i
  terms : Own wr 3 1 vt (natsV (rec.map (·.1)))
  whom : Own wr 3 1 vw (intsV (rec.map (·.2)))
  offT : Off F vt
  offW : Off F vw
  newT : Fresh W vt
  newW : Fresh W vw
  apart : ∀ g, vt.ownBlock = some g → vw.ownBlock ≠ some g
  vote5 : N.vote < 5
theorem hears_vote (N : PNode) (fr draw : Int) (nums : List Int) (dl : Nat) (hN : N.n = 5) (h : N.vote < 5) : (N.hears fr draw nums dl).2.vote < 5 := by
  unfold PNode.hears
  by_cases h1 : fr < 0 ∨ (N.n : Int) ≤ fr ∨ fr = N.id ∨ mayB 1 nums dl = false
  · rw [if_pos h1]; exact h
  · rw [if_neg h1]
    have hfr : fr < 5 := by omega
    have key : ∀ N1 : PNode, N1.vote < 5 → (if N1.grants fr (nums.getD 0 0) (nums.getD 1 0) (nums.getD 2 0) then ([voteMsg N1 fr 1], N1.gives fr draw) else ([voteMsg N1 fr 0], N1)).2.vote < 5 := by
      intro N1 k
      split
      · exact hfr
      · exact k
    by_cases h2 : (N.term : Int) < nums.getD 0 0
    · simp only [if_pos h2]; exact key _ (by show (-1 : Int) < 5; omega)
    · simp only [if_neg h2]; exact key _ h
theorem VotesInv.step {W wr : World} {d r : Nat} {F : Nat → Prop} {N : PNode} {s : Bool} {rec : List (Nat × Int)} {vt vw : Value} {i : Nat} (h : VotesInv W wr d r F N s rec vt vw i) : VotesInv W wr d r F N s rec vt vw (i + 1) :=
  { h with few := Nat.le_succ_of_le h.few }
theorem VotesInv.no {W wr w' : World} {d r : Nat} {F : Nat → Prop} {N : PNode} {s : Bool} {rec : List (Nat × Int)} {vt vw : Value} {i : Nat} (h : VotesInv W wr d r F N s rec vt vw i) (x : Ext NoB wr w') : VotesInv W w' d r F N s rec vt vw i :=
  ⟨h.ext.trans x, h.above, h.raft.no x, h.bare, h.recs, h.few, h.terms.no x, h.whom.no x, h.offT, h.offW, h.newT, h.newW, h.apart, h.vote5⟩
theorem VotesInv.hear {W wr w' : World} {d r r' : Nat} {F : Nat → Prop} {N N' : PNode} {s s' : Bool} {rec : List (Nat × Int)} {vt vw : Value} {i : Nat} (h : VotesInv W wr d r F N s rec vt vw i) (x : Ext F wr w') (hR : RaftIs w' r' d (Gr F wr w') N' 1048576 s')
    (hB : Bare N') (hrec : RecOk N' rec) (hv : N'.vote < 5) : VotesInv W w' d r' (Gr F wr w') N' s' rec vt vw i := by
  have s0 := h.ext.size
  refine ⟨h.ext.next x (fun b hb hl => by have := h.above b hb; omega), fun b hb => hb.elim (h.above b) (fun h => by omega), hR, hB, hrec, h.few, h.terms.ext x h.offT, h.whom.ext x h.offW, fun g hg hb => ?_, fun g hg hb => ?_, h.newT, h.newW, h.apart, hv⟩
  · exact hb.elim (h.offT g hg) (fun hh => by have := h.terms.lt g hg; omega)
  · exact hb.elim (h.offW g hg) (fun hh => by have := h.whom.lt g hg; omega)
theorem VotesInv.crash {W wr wc wp : World} {d r r' : Nat} {F : Nat → Prop} {N N' : PNode} {s s' : Bool} {rec : List (Nat × Int)} {vt vw : Value} {i : Nat} (h : VotesInv W wr d r F N s rec vt vw i) (x1 : Ext F wr wc) (x2 : Ext (Gr F wr wc) wc wp)
    (hR : RaftIs wp r' d (Gr (Gr F wr wc) wc wp) N' 1048576 s') (hB : Bare N') (ht : N'.term = N.term) (hv : N'.vote = N.vote) : VotesInv W wp d r' (Gr (Gr F wr wc) wc wp) N' s' rec vt vw i := by
  have s0 := h.ext.size
  have s1 := x1.size
  have hoT : Off (Gr F wr wc) vt := fun g hg hb => hb.elim (h.offT g hg) (fun hh => by have := h.terms.lt g hg; omega)
  have hoW : Off (Gr F wr wc) vw := fun g hg hb => hb.elim (h.offW g hg) (fun hh => by have := h.whom.lt g hg; omega)
  have xc : Ext NoB W wc := h.ext.next x1 (fun b hb hl => by have := h.above b hb; omega)
  have hab : ∀ b, Gr F wr wc b → W.heap.size ≤ b := fun b hb => hb.elim (h.above b) (fun h => by omega)
  refine ⟨xc.next x2 (fun b hb hl => by have := hab b hb; omega), fun b hb => hb.elim (hab b) (fun h => by omega), hR, hB, fun p hp => ?_, h.few, (h.terms.ext x1 h.offT).ext x2 hoT, (h.whom.ext x1 h.offW).ext x2 hoW, fun g hg hb => ?_, fun g hg hb => ?_, h.newT, h.newW, h.apart, by rw [hv]; exact h.vote5⟩
  · rw [ht, hv]; exact h.recs p hp
  · exact hb.elim (hoT g hg) (fun hh => by have := h.terms.lt g hg; omega)
  · exact hb.elim (hoW g hg) (fun hh => by have := h.whom.lt g hg; omega)

theorem VotesInv.vote {W wx wA wB wC wD : World} {d r : Nat} {F : Nat → Prop} {N : PNode} {s : Bool} {rec : List (Nat × Int)} {vt vw t1 t2 : Value} {i : Nat} {fr : Int} (h : VotesInv W wx d r F N s rec vt vw i) (xA : Ext NoB wx wA)
    (oT : Own wB 3 1 t1 (natsV (rec.map (·.1)) ++ [.int .i64 N.term])) (xB : Ext (fun g => vt.ownBlock = some g) wA wB) (hT : t1.ownBlock = vt.ownBlock ∨ ∃ g, t1.ownBlock = some g ∧ wA.heap.size ≤ g) (xC : Ext NoB wB wC)
    (oW : Own wD 3 1 t2 (intsV (rec.map (·.2)) ++ [.int .i64 fr])) (xD : Ext (fun g => vw.ownBlock = some g) wC wD) (hW : t2.ownBlock = vw.ownBlock ∨ ∃ g, t2.ownBlock = some g ∧ wC.heap.size ≤ g) (hv : N.vote = fr) (hfr : 0 ≤ fr) :
    VotesInv W wD d r F N s (rec ++ [(N.term, fr)]) t1 t2 (i + 1) := by
  have s0 := h.ext.size
  have sA := xA.size
  have sB := xB.size
  have sC := xC.size
  have sD := xD.size
  have hFl := h.raft.lt
  have tl := h.terms.lt
  have wl := h.whom.lt
  have hTc : ∀ g, t1.ownBlock = some g → vt.ownBlock = some g ∨ wA.heap.size ≤ g := fun g hg => by
    rcases hT with e | ⟨g', e, k⟩
    · exact .inl (e ▸ hg)
    · rw [e] at hg; cases hg; exact .inr k
  have hWc : ∀ g, t2.ownBlock = some g → vw.ownBlock = some g ∨ wC.heap.size ≤ g := fun g hg => by
    rcases hW with e | ⟨g', e, k⟩
    · exact .inl (e ▸ hg)
    · rw [e] at hg; cases hg; exact .inr k
  have yB : Ext NoB W wB := h.newT.ext (h.ext.trans xA) xB
  have yD : Ext NoB W wD := h.newW.ext (yB.trans xC) xD
  have rB : RaftIs wB r d F N 1048576 s := (h.raft.no xA).ext xB (fun b hb hg => h.offT b hg hb)
  have rD : RaftIs wD r d F N 1048576 s := (rB.no xC).ext xD (fun b hb hg => h.offW b hg hb)
  refine ⟨yD, h.above, rD, h.bare, fun p hp => ?_, ?_, ?_, ?_, fun g hg hb => ?_, fun g hg hb => ?_, fun g hg => ?_, fun g hg => ?_, fun g hg hg2 => ?_, h.vote5⟩
  · rcases List.mem_append.1 hp with hp | hp
    · exact h.recs p hp
    · rw [List.mem_singleton.1 hp]
      exact ⟨Nat.le_refl _, fun _ => hv, hfr⟩
  · rw [List.length_append]
    exact Nat.succ_le_succ h.few
  · have e : natsV ((rec ++ [(N.term, fr)]).map (·.1)) = natsV (rec.map (·.1)) ++ [.int .i64 N.term] := by simp [natsV]
    rw [e]
    refine (oT.no xC).ext xD (fun g hg hgw => ?_)
    rcases hTc g hg with k | k
    · exact h.apart g k hgw
    · have := wl g hgw; omega
  · have e : intsV ((rec ++ [(N.term, fr)]).map (·.2)) = intsV (rec.map (·.2)) ++ [.int .i64 fr] := by simp [intsV]
    rw [e]
    exact oW
  · rcases hTc g hg with k | k
    · exact h.offT g k hb
    · have := hFl g hb; omega
  · rcases hWc g hg with k | k
    · exact h.offW g k hb
    · have := hFl g hb; omega
  · rcases hTc g hg with k | k
    · exact h.newT g k
    · omega
  · rcases hWc g hg with k | k
    · exact h.newW g k
    · omega
  · rcases hTc g hg with k | k
    · rcases hWc g hg2 with k2 | k2
      · exact h.apart g k k2
      · have := tl g k; omega
    · rcases hWc g hg2 with k2 | k2
      · have := wl g k2; omega
      · have := oT.lt g hg; omega

set_option maxRecDepth 100000 in
set_option maxHeartbeats 1000000 in
theorem votes_many (ap : Option Addr) (m c : Nat) (draw : Int) (w : World) (hm : 60 < m) (hm2 : m ≤ 140737488355328) : Calls Tryz.prog 5 #[.slice ap m c, .int .i64 draw] w fun e w' => e = .returned (.bool true) ∧ Ext NoB w w' := by
  have h1 : (60 : Int) < (m : Int) := by omega
  go_enter Tryz.func5, Tryz.ntmps5
  go_wp2_with fail
  refine (known_any w).mono ?_; rintro e w1 ⟨rfl, x1⟩
  go_wp2_with fail
  go_ret
  exact ⟨rfl, x1⟩

set_option maxRecDepth 100000 in
set_option maxHeartbeats 8000000 in
theorem votes_few (ap : Option Addr) (m c : Nat) (draw : Int) (w : World) (hm : m ≤ 60) (hask : ∀ i, i < m → ∃ b off, ap = some ⟨b, off, none⟩ ∧ AskAt w b (off + i * 5)) (hmc : m ≤ c ∧ c ≤ maxLen) :
    Calls Tryz.prog 5 #[.slice ap m c, .int .i64 draw] w fun e w' => e = .returned (.bool true) ∧ Ext NoB w w' := by
  have h1 : ¬ ((60 : Int) < (m : Int)) := by omega
  have Hask := Lib.hid hask
  have Hmc := Lib.hid hmc
  clear hask hmc
  go_enter Tryz.func5, Tryz.ntmps5
  go_wp2_with fail
  refine (New_any 1048576 (by omega) w).mono ?_; rintro e w1 ⟨d, rfl, hd, hD, x1⟩
  have HD := Lib.hid hD
  have Hx1 := Lib.hid x1
  clear hD x1
  go_wp2_with fail
  refine (Open_new 0 5 d _ 1048576 draw w1 HD.out (by omega) (.inr (.inr rfl))).mono ?_; rintro e w2 ⟨r0, rfl, x2, hR2⟩
  have hinv : VotesInv w w2 d r0 (Gr (Gr NoB w w1) w1 w2) (newNode 0 5 draw) false [] (.slice none 0 0) (.slice none 0 0) 0 := by
    have s1 := Hx1.out.size
    refine ⟨Hx1.out.next x2 (fun b h hb => ?_), fun b hb => ?_, hR2, ⟨rfl, rfl, rfl⟩, (fun p hp => by cases hp), Nat.le_refl _, Own.nil _ _ _, Own.nil _ _ _, (fun g hg => by cases hg), (fun g hg => by cases hg), Fresh.nil _ _ _, Fresh.nil _ _ _, (fun g hg => by cases hg), (by show (-1 : Int) < 5; omega)⟩
    · rcases h with h | h
      · exact h
      · omega
    · rcases hb with (hb | hb) | hb
      · exact hb.elim
      · exact hb.1
      · omega
  have Hinv := Lib.hid hinv
  clear x2 hR2 hinv
  go_wp2_with fail
  go_loopw [7, 9, 10, 11] (fun vr vt vw vi wr => ∃ (i r : Nat) (F : Nat → Prop) (N : PNode) (s : Bool) (rec : List (Nat × Int)), vr = .pointer (some ⟨r, 0, none⟩) ∧ vi = .int .i64 i ∧ i ≤ m ∧ Hid (VotesInv w wr d r F N s rec vt vw i)) (fun _ _ _ vi _ => m - (intOf vi).toNat)
  case atStart => exact ⟨0, r0, _, _, _, _, rfl, rfl, Nat.zero_le _, Hinv⟩
  case round =>
    obtain ⟨i, r, F, N, s, rec, rfl, rfl, hi, HI⟩ := hrel
    obtain ⟨wo, rfl⟩ : ∃ wo : World, wo = wr := ⟨_, rfl⟩
    by_cases hlt : i < m
    · obtain ⟨ab, ao, rfl, hat⟩ := Hask.out i hlt
      obtain ⟨fr, tt, kd, na, da, nn, nc, dl, dc, a0, a1, a2, a3, a4, hn1, hn2, hn3⟩ := hat
      have Hn3 := Lib.hid hn3
      have xi := HI.out.ext
      replace a0 := xi.cell a0 (fun h => h)
      replace a1 := xi.cell a1 (fun h => h)
      replace a2 := xi.cell a2 (fun h => h)
      replace a3 := xi.cell a3 (fun h => h)
      replace a4 := xi.cell a4 (fun h => h)
      have Hxi := Lib.hid xi
      clear hn3 xi
      by_cases hbig : 10 < nn ∨ 100 < dl
      · have hs : ((10 : Int) < (nn : Int)) ∨ (¬ ((10 : Int) < (nn : Int)) ∧ (100 : Int) < (dl : Int)) := by omega
        rcases hs with hs1 | ⟨hs1, hs2⟩
        all_goals
          go_wp2_with fail
          have xa : Ext NoB wo (wo.alloc (.cells #[.int .i64 fr, .int .i64 tt, .int .i64 kd, .slice na nn nc, .slice da dl dc] 37)) := (Ext.refl NoB wo).alloc _
          refine (known_any _).mono ?_; rintro e w3 ⟨rfl, x3⟩
          have Hxa := Lib.hid ((Hxi.out.trans xa).trans x3)
          clear xa x3
          go_wp2_with fail
          go_ret
          exact ⟨rfl, Hxa.out⟩
      · have hs1 : ¬ ((10 : Int) < (nn : Int)) := by omega
        have hs2 : ¬ ((100 : Int) < (dl : Int)) := by omega
        have hid0 : (N.id : Int) = 0 := by rw [HI.out.bare.1]; rfl
        have hear := Hear_all r d F N 1048576 s fr draw na da nn nc dl dc (wo.alloc (.cells #[.int .i64 fr, .int .i64 0, .int .i64 1, .slice na nn nc, .slice da dl dc] 37)) (HI.out.raft.no ((Ext.refl NoB wo).alloc _))
          (fun e => by
            obtain ⟨x, y, z, hR⟩ := Hn3.out e
            obtain ⟨nb, noff, hna, hcl⟩ := nums_cell (l := [x, y, z]) hR (by show 0 < 3; omega)
            have hnb : nb < w.heap.size := World.block_lt_of_cell? w _ (hcl 0 x rfl)
            refine ⟨x, y, z, (hR.no Hxi.out).no ((Ext.refl NoB wo).alloc _), fun g hg hF => ?_⟩
            rw [hna] at hg
            simp [Value.ownBlock] at hg
            have := HI.out.above g hF
            omega) (by rw [HI.out.bare.bytes]; omega)
        rw [hid0] at hear
        have Hear := Lib.hid hear
        clear hear hid0
        go_wp2_with fail
        refine Hear.out.mono ?_; rintro e w3 ⟨nums, s', v, rfl, hm3, hf3, x3, hR3⟩
        obtain ⟨hB', hrec', hMs⟩ := hears_rec N fr draw nums dl rec HI.out.bare (HI.out.raft.vote.1) HI.out.recs
        have hv5 := hears_vote N fr draw nums dl HI.out.bare.2.1 HI.out.vote5
        have hinv := (HI.out.no ((Ext.refl NoB wo).alloc (.cells #[.int .i64 fr, .int .i64 0, .int .i64 1, .slice na nn nc, .slice da dl dc] 37))).hear x3 hR3 hB' hrec' hv5
        obtain ⟨N', hN'⟩ : ∃ N', (N.hears fr draw nums dl).2 = N' := ⟨_, rfl⟩
        obtain ⟨Ms, hMsE⟩ : ∃ Ms, (N.hears fr draw nums dl).1 = Ms := ⟨_, rfl⟩
        obtain ⟨F', hF'⟩ : ∃ F', Gr F (wo.alloc (.cells #[.int .i64 fr, .int .i64 0, .int .i64 1, .slice na nn nc, .slice da dl dc] 37)) w3 = F' := ⟨_, rfl⟩
        rw [hN', hF'] at hinv
        rw [hN', hMsE] at hMs
        rw [hMsE] at hm3
        have Hinv' := Lib.hid hinv
        obtain ⟨ms, hms, hown⟩ := hm3
        have hml := hms.len
        obtain ⟨va, vn, vc, rfl, hvl, hvn, hvc, _, hvr⟩ := hown.rd
        have Hf3 := Lib.hid hf3
        have Hms := Lib.hid hms
        have Hown := Lib.hid hown
        have Hvr := Lib.hid hvr
        clear hf3 hms hown hvr x3 hR3 hinv hF' hN' hMsE hB' hrec' hv5
        rcases hMs with rfl | ⟨y, rfl, hy1, hy2⟩
        · obtain rfl : vn = 0 := by
            simp only [List.length_nil, Nat.zero_mul] at hml
            omega
          have hmod : i % 3 = 2 ∨ i % 3 ≠ 2 := Decidable.em _
          rcases hmod with hmod | hmod
          · have hb3 : (((i : Int) % 3) == 2) = true := beq_iff_eq.2 (by omega)
            clear hmod
            go_wp2_with fail
            refine wp_loop_rounds 1 ?_
            rw [rounds_succ]
            go_wp2_with fail
            refine (Crash_node r d F' N' 1048576 s' draw _ Hinv'.out.raft Hinv'.out.bare.2.2).mono ?_; rintro e wc ⟨rfl, xc, D, hDc, hBD⟩
            have hre := Open_again 0 d _ D N' 1048576 s' draw wc hDc hBD Hinv'.out.bare Hinv'.out.raft.fresh Hinv'.out.raft.term ⟨Hinv'.out.raft.vote.1, Hinv'.out.vote5⟩
            have Hre := Lib.hid hre
            have Hxc := Lib.hid xc
            clear hre xc hDc hBD
            go_wp2_with fail
            refine Hre.out.mono ?_; rintro e wp ⟨r', N2, s2, rfl, xp, hRp, hBp, htp, hvp⟩
            have hi2 := Hinv'.out.crash Hxc.out xp hRp hBp htp hvp
            have Hi2 := Lib.hid hi2.step
            clear hi2 xp hRp hBp htp hvp
            go_wp2_with fail
            go_roundw
            case rel => exact ⟨i + 1, r', _, N2, s2, rec, rfl, by go_num, by omega, Hi2⟩
            case measure => simp [intOf]; omega
          · have hb3 : (((i : Int) % 3) == 2) = false := beq_eq_false_iff_ne.2 (by omega)
            clear hmod
            go_wp2_with fail
            refine wp_loop_rounds 1 ?_
            rw [rounds_succ]
            go_wp2_with fail
            go_roundw
            case rel => exact ⟨i + 1, r, F', N', s', rec, rfl, by go_num, by omega, Lib.hid Hinv'.out.step⟩
            case measure => simp [intOf]; omega
        · obtain rfl : vn = 1 := by
            simp only [List.length_cons, List.length_nil] at hml
            omega
          obtain ⟨mm, hmi, hmj⟩ := Hms.out.get 0 _ rfl
          obtain ⟨vb, voff, rfl, hvcell⟩ := Hvr.out (by rintro e; rw [e] at hml; simp at hml)
          have hk1 := hmj 1 (by omega)
          have hk2 := hmj 2 (by omega)
          have hk3 := hmj 3 (by omega)
          obtain ⟨nv, dv, rfl, hnv, -⟩ := hmi
          obtain ⟨nva, nvc, hnve, hnl1, hnl2⟩ := Rd.shape hnv.rd
          subst hnve
          obtain ⟨nvb, nvo, rfl, hnc⟩ := nums_cell (l := [(N'.term : Int), y]) hnv.rd (by show 0 < 2; omega)
          have l0 : w3.cell? ⟨nvb, nvo, none⟩ = some (.int .i64 N'.term) := hnc 0 _ rfl
          have l1 : w3.cell? ⟨nvb, nvo + 1, none⟩ = some (.int .i64 y) := hnc 1 _ rfl
          have k1 : w3.cell? ⟨vb, voff + 1, none⟩ = some (.int .i64 fr) := hvcell 1 _ hk1
          have k2 : w3.cell? ⟨vb, voff + 2, none⟩ = some (.int .i64 2) := hvcell 2 _ hk2
          have k3 : w3.cell? ⟨vb, voff + 3, none⟩ = some (.slice (some ⟨nvb, nvo, none⟩) 2 nvc) := hvcell 3 _ hk3
          clear hmj hk1 hk2 hk3 hvcell hnc hnv hnl1 hml hvl Hvr
          rcases hy2 with rfl | rfl
          · clear hy1
            have hmod : i % 3 = 2 ∨ i % 3 ≠ 2 := Decidable.em _
            rcases hmod with hmod | hmod
            · have hb3 : (((i : Int) % 3) == 2) = true := beq_iff_eq.2 (by omega)
              clear hmod
              go_wp2_with fail
              refine wp_loop_rounds 2 ?_
              rw [rounds_succ]
              go_wp2_with fail
              rw [rounds_succ]
              go_wp2_with fail
              refine (Crash_node r d F' N' 1048576 s' draw _ Hinv'.out.raft Hinv'.out.bare.2.2).mono ?_; rintro e wc ⟨rfl, xc, D, hDc, hBD⟩
              have hre := Open_again 0 d _ D N' 1048576 s' draw wc hDc hBD Hinv'.out.bare Hinv'.out.raft.fresh Hinv'.out.raft.term ⟨Hinv'.out.raft.vote.1, Hinv'.out.vote5⟩
              have Hre := Lib.hid hre
              have Hxc := Lib.hid xc
              clear hre xc hDc hBD
              go_wp2_with fail
              refine Hre.out.mono ?_; rintro e wp ⟨r', N2, s2, rfl, xp, hRp, hBp, htp, hvp⟩
              have hi2 := Hinv'.out.crash Hxc.out xp hRp hBp htp hvp
              have Hi2 := Lib.hid hi2.step
              clear hi2 xp hRp hBp htp hvp
              go_wp2_with fail
              go_roundw
              case rel => exact ⟨i + 1, r', _, N2, s2, rec, rfl, by go_num, by omega, Hi2⟩
              case measure => simp [intOf]; omega
            · have hb3 : (((i : Int) % 3) == 2) = false := beq_eq_false_iff_ne.2 (by omega)
              clear hmod
              go_wp2_with fail
              refine wp_loop_rounds 2 ?_
              rw [rounds_succ]
              go_wp2_with fail
              rw [rounds_succ]
              go_wp2_with fail
              go_roundw
              case rel => exact ⟨i + 1, r, F', N', s', rec, rfl, by go_num, by omega, Lib.hid Hinv'.out.step⟩
              case measure => simp [intOf]; omega
          · obtain ⟨hy3, hy4⟩ := hy1 rfl
            have hI := Hinv'.out
            have hft := hI.few
            obtain ⟨ta, tc, hvt, htn, htc⟩ := Rd.shape hI.terms.rd
            obtain ⟨wa, wc0, hvw, hwn, hwc⟩ := Rd.shape hI.whom.rd
            have hnl : (natsV (rec.map (·.1))).length = rec.length := by simp [natsV]
            have hil : (intsV (rec.map (·.2))).length = rec.length := by simp [intsV]
            rw [hnl] at hvt htn
            rw [hil] at hvw hwn
            subst hvt hvw
            have hterms := Lib.hid hI.terms
            have hwhom := Lib.hid hI.whom
            have hrecs := Lib.hid hI.recs
            have Hy3 := Lib.hid hy3
            have Hy4 := Lib.hid hy4
            clear hI hnl hil hy1 hy3 hy4
            go_wp2_with fail
            refine wp_loop_rounds 2 ?_
            rw [rounds_succ]
            go_wp2_with fail
            go_loopw [15] (fun vj wr => ∃ j : Nat, vj = .int .i64 j ∧ j ≤ rec.length ∧ Hid (Ext NoB w3 wr)) (fun vj _ => rec.length - (intOf vj).toNat)
            case atStart => exact ⟨0, rfl, Nat.zero_le _, Lib.hid (Ext.refl _ _)⟩
            case round =>
              obtain ⟨j, rfl, hj, HXj⟩ := hrel
              have q0 := HXj.out.cell l0 (fun h => h)
              have q1 := HXj.out.cell k1 (fun h => h)
              have q3 := HXj.out.cell k3 (fun h => h)
              by_cases hjl : j < rec.length
              · have hjI : (j : Int) < (rec.length : Int) := by omega
                have et : natsV (rec.map (·.1)) = intsV (rec.map fun p => (p.1 : Int)) := by simp [natsV, intsV]
                have hRt := (hterms.out.no HXj.out).rd
                have hRw := (hwhom.out.no HXj.out).rd
                rw [et] at hRt
                rw [show rec.length = (rec.map fun p => (p.1 : Int)).length by rw [List.length_map]] at hRt
                rw [show rec.length = (rec.map (·.2)).length by rw [List.length_map]] at hRw
                obtain ⟨tb, toff, hte, htcl⟩ := nums_cell hRt (by rw [List.length_map]; omega)
                obtain ⟨wb, woff, hwe, hwcl⟩ := nums_cell hRw (by rw [List.length_map]; omega)
                subst hte hwe
                obtain ⟨⟨pt, pq⟩, hp⟩ : ∃ p, rec[j]? = some p := ⟨_, List.getElem?_eq_getElem hjl⟩
                have hpm := hrecs.out _ (List.mem_of_getElem? hp)
                have c1 : wr.cell? ⟨tb, toff + j, none⟩ = some (.int .i64 pt) := htcl j _ (by simp [hp])
                have c2 : wr.cell? ⟨wb, woff + j, none⟩ = some (.int .i64 pq) := hwcl j _ (by simp [hp])
                have hpp : pt = N'.term → pq = fr := fun e => by rw [← Hy3.out]; exact (hpm.2.1 e).symm
                clear htcl hwcl hRt hRw et hp hpm
                by_cases hpe : pt = N'.term
                · obtain rfl := hpp hpe
                  subst hpe
                  clear hpp
                  go_wp2_with fail
                  go_quiet (fail)
                  go_wp2_with fail
                  go_roundw
                  case rel => exact ⟨j + 1, by go_num, by omega, Lib.hid (HXj.out.drewN _)⟩
                  case measure => simp [intOf]; omega
                · have hb4 : ((pt : Int) == (N'.term : Int)) = false := beq_eq_false_iff_ne.2 (by omega)
                  have hb5 : ¬ ((pt : Int) = (N'.term : Int)) := by omega
                  clear hpp
                  go_wp2_with fail
                  go_quiet (fail)
                  go_wp2_with fail
                  go_roundw
                  case rel => exact ⟨j + 1, by go_num, by omega, Lib.hid (HXj.out.drewN _)⟩
                  case measure => simp [intOf]; omega
              · obtain rfl : j = rec.length := by omega
                have hTv : ∀ h : (Value.slice ta rec.length tc).ownBlock = some vb, False := fun h => by
                  have g1 := HI.out.terms.lt vb h
                  have g2 := Hf3.out vb rfl
                  simp at g2
                  omega
                have hinvx := Hinv'.out.no HXj.out
                have xA : Ext NoB wr (wr.alloc (.cells #[.int .i64 N'.term] 3)) := (Ext.refl NoB wr).alloc _
                have hsrc1 := Src.one (P := Tryz.prog) unInts' wr.heap.size (.int .i64 N'.term) 3 (0, 0) (blk_new wr (.cells #[.int .i64 N'.term] 3)) rfl
                have Hsrc1 := Lib.hid hsrc1
                have HoT := Lib.hid (hinvx.terms.no xA)
                have hbd1 : ((natsV (rec.map (·.1))).length + [Value.int .i64 N'.term].length) * 8 ≤ 140737488355328 := by
                  simp only [natsV, List.length_map, List.length_singleton]
                  omega
                have hbd2 : ((intsV (rec.map (·.2))).length + [Value.int .i64 fr].length) * 8 ≤ 140737488355328 := by
                  simp only [intsV, List.length_map, List.length_singleton]
                  omega
                have Hbd1 := Lib.hid hbd1
                have Hbd2 := Lib.hid hbd2
                have q1A := xA.cell q1 (fun h => h)
                have Hq1A := Lib.hid q1A
                have HTv := Lib.hid hTv
                have HinvX := Lib.hid hinvx
                have HxA := Lib.hid xA
                clear hsrc1 hbd1 hbd2 hinvx xA q1A hTv
                go_wp2_with (at_builtin; refine wpList_app _ rfl (.tmp 124) (.tmp 132) 34 34 rfl 3 1 8 unInts' elInt HoT.out Hsrc1.out rfl rfl Hbd1.out (by decide) ?_; intro t1 wB oT xB hT; refine halt2 (fun _K HK => ?_))
                have k1B := xB.cell Hq1A.out (fun h => HTv.out h)
                have xC : Ext NoB wB (wB.alloc (.cells #[.int .i64 fr] 3)) := (Ext.refl NoB wB).alloc _
                have hsrc2 := Src.one (P := Tryz.prog) unInts' wB.heap.size (.int .i64 fr) 3 (0, 0) (blk_new wB (.cells #[.int .i64 fr] 3)) rfl
                have Hsrc2 := Lib.hid hsrc2
                have HoW := Lib.hid ((((HinvX.out.whom.no HxA.out).ext xB (fun g hg hgT => HinvX.out.apart g hgT hg))).no xC)
                have HoT1 := Lib.hid oT
                have HxB := Lib.hid xB
                have HxC := Lib.hid xC
                have HT1 := Lib.hid hT
                clear hsrc2 oT xB xC hT
                refine HK.out ?_; clear HK _K
                go_wp2_with (at_builtin; refine wpList_app _ rfl (.tmp 134) (.tmp 140) 34 34 rfl 3 1 8 unInts' elInt HoW.out Hsrc2.out rfl rfl Hbd2.out (by decide) ?_; intro t2 wD oW xD hW; refine halt2 (fun _K HK => ?_))
                have hnew := HinvX.out.vote HxA.out HoT1.out HxB.out HT1.out HxC.out oW xD hW Hy3.out Hy4.out
                obtain ⟨rec2, hrec2⟩ : ∃ rec2, rec ++ [(N'.term, fr)] = rec2 := ⟨_, rfl⟩
                rw [hrec2] at hnew
                have Hnew := Lib.hid hnew
                clear oW xD hW hnew hrec2
                refine HK.out ?_; clear HK _K
                go_wp2_with fail
                rw [rounds_succ]
                have hmod : i % 3 = 2 ∨ i % 3 ≠ 2 := Decidable.em _
                rcases hmod with hmod | hmod
                · have hb3 : (((i : Int) % 3) == 2) = true := beq_iff_eq.2 (by omega)
                  clear hmod
                  go_wp2_with fail
                  refine (Crash_node r d F' N' 1048576 s' draw _ Hnew.out.raft Hnew.out.bare.2.2).mono ?_; rintro e wc ⟨rfl, xc, D, hDc, hBD⟩
                  have hre := Open_again 0 d _ D N' 1048576 s' draw wc hDc hBD Hnew.out.bare Hnew.out.raft.fresh Hnew.out.raft.term ⟨Hnew.out.raft.vote.1, Hnew.out.vote5⟩
                  have Hre := Lib.hid hre
                  have Hxc := Lib.hid xc
                  clear hre xc hDc hBD
                  go_wp2_with fail
                  refine Hre.out.mono ?_; rintro e wp ⟨r', N2, s2, rfl, xp, hRp, hBp, htp, hvp⟩
                  have hi2 := Hnew.out.crash Hxc.out xp hRp hBp htp hvp
                  have Hi2 := Lib.hid hi2
                  clear hi2 xp hRp hBp htp hvp
                  go_wp2_with fail
                  go_roundw
                  case rel => exact ⟨i + 1, r', _, N2, s2, rec2, rfl, by go_num, by omega, Hi2⟩
                  case measure => simp [intOf]; omega
                · have hb3 : (((i : Int) % 3) == 2) = false := beq_eq_false_iff_ne.2 (by omega)
                  clear hmod
                  go_wp2_with fail
                  go_roundw
                  case rel => exact ⟨i + 1, r, F', N', s', rec2, rfl, by go_num, by omega, Lib.hid Hnew.out⟩
                  case measure => simp [intOf]; omega
    · obtain rfl : i = m := by omega
      have hx := HI.out.ext
      go_wp2_with fail
      refine (known_any wo).mono ?_; rintro e w3 ⟨rfl, x3⟩
      go_wp2_with fail
      go_ret
      exact ⟨rfl, hx.trans x3⟩
end Go.Proofs.YtgglbholbkdgfaaGreatDoor
