/- The laws' own: known. -/
import Derived.Test.YtgglbholbkdgfaaGreatDoorB44
namespace Go.Proofs.YtgglbholbkdgfaaGreatDoor
open Go.RowKit

/-- One that is alone, behind ten ticks. -/
def aloneN : PNode := ((newNode 0 1 0).asks 0).wins
theorem alone_facts : aloneN.role = 2 ∧ aloneN.term = 1 ∧ aloneN.leader = 0 ∧ aloneN.committed = 1 ∧ aloneN.taken = 0 ∧ aloneN.log = [(1, [])] := by
  refine ⟨rfl, rfl, rfl, by decide +kernel, rfl, rfl⟩

/-- Behind k ticks of one that is alone. -/
def KnownAt (w wr : World) (r d k : Nat) : Prop :=
  ∃ F, (∀ b, F b → w.heap.size ≤ b) ∧ Ext NoB w wr ∧ ((k < 10 ∧ RaftIs wr r d F { newNode 0 1 0 with wait := 10 - (k : Int) } 10000 false) ∨ (k = 10 ∧ RaftIs wr r d F aloneN 10000 true))
theorem EntRows.single {w : World} {ms : List (List Value)} {e : Nat × List UInt8} (h : EntRows w ms [e]) : ∃ m, ms = [m] ∧ EntIs w m e := by
  generalize he : [e] = es at h
  cases h with
  | nil => cases he
  | snoc h1 h2 =>
    rename_i ms' es' m' e'
    have h3 : es' = [] := by
      have := congrArg List.length he
      simp at this
      exact this
    subst h3
    have h4 : e = e' := by simpa using he
    subst h4
    have h5 := h1.len
    simp only [List.length_nil, Nat.zero_mul] at h5
    generalize he2 : ([] : List (Nat × List UInt8)) = es2 at h1
    cases h1 with
    | nil => exact ⟨m', rfl, h2⟩
    | snoc _ _ => simp at he2
theorem KnownAt.step {w wr : World} {r d k : Nat} (h : KnownAt w wr r d k) (hk : k < 10) :
    Calls Tryz.prog 17 #[.pointer (some ⟨r, 0, none⟩), .int .i64 0] wr fun e w' => (∃ a n c, e = .returned (.slice a n c)) ∧ KnownAt w w' r d (k + 1) := by
  obtain ⟨F, hF, hx, ⟨_, hR⟩ | ⟨h10, _⟩⟩ := h
  · have hno : ∀ b, b < w.heap.size → ¬ F b := fun b hb h => by have := hF b h; omega
    by_cases h9 : k < 9
    · refine (Tick_counts r d F _ 10000 false 0 wr hR (by show 1 < 10 - (k : Int) ∧ 10 - (k : Int) < 1000; omega)).mono ?_
      rintro e w' ⟨rfl, x, hR'⟩
      refine ⟨⟨_, _, _, rfl⟩, F, hF, hx.next x (fun b h hb => (hno b hb h).elim), .inl ⟨by omega, ?_⟩⟩
      have e : ({ newNode 0 1 0 with wait := 10 - ((k + 1 : Nat) : Int) } : PNode) = { newNode 0 1 0 with wait := (10 - (k : Int)) - 1 } := by
        have : (10 - ((k + 1 : Nat) : Int)) = (10 - (k : Int)) - 1 := by omega
        rw [this]
      rw [e]
      exact hR'
    · obtain rfl : k = 9 := by omega
      refine (Tick_stands r d F _ 10000 false 0 wr hR (by show -1000 < 10 - ((9 : Nat) : Int) ∧ 10 - ((9 : Nat) : Int) ≤ 1; omega) (by show (0 : Nat) ≠ 2; omega) ((tos 1 0).map (sendMsg aloneN)) aloneN (fun w1 h1 => ?_)).mono ?_
      · have := stands_alone r d F { newNode 0 1 0 with wait := 10 - ((9 : Nat) : Int) - 1 } 10000 false 0 w1 h1 rfl (by show (0 : Nat) + 1 ≤ _; omega) (by show (0 : Nat) + 100 ≤ _; omega)
          (layOk_first 10000 _ [] (by decide) (by show (0 : Nat) + 1 ≤ _; omega) (by show (0 : Nat) + 200 ≤ _; omega)) (fun e he => by cases he)
        exact this
      rintro e w' ⟨v, rfl, hm, hf, x, hR'⟩
      obtain ⟨_, _, ho⟩ := hm
      obtain ⟨a, n, c, rfl, _⟩ := ho.rd
      refine ⟨⟨_, _, _, rfl⟩, Gr F wr w', fun b hb => ?_, hx.next x (fun b h hb => (hno b hb h).elim), .inr ⟨rfl, hR'⟩⟩
      rcases hb with hb | hb
      · exact hF b hb
      · have := hx.size; omega
  · omega

set_option maxRecDepth 100000 in
set_option maxHeartbeats 4000000 in
theorem known_any (w : World) : Calls Tryz.prog 14 #[] w fun e w' => e = .returned (.bool true) ∧ Ext NoB w w' := by
  go_enter Tryz.func14, Tryz.ntmps14
  go_wp2_with fail
  refine (New_any 10000 (by omega) w).mono ?_; rintro e w1 ⟨d, rfl, hd, hD, x1⟩
  have HD := Lib.hid hD
  have Hx1 := Lib.hid x1
  clear hD x1
  go_wp2_with fail
  refine (Open_new 0 1 d _ 10000 0 w1 HD.out (by omega) (.inl rfl)).mono ?_; rintro e w2 ⟨r, rfl, x2, hR2⟩
  have hK : KnownAt w w2 r d 0 := by
    have s1 := Hx1.out.size
    refine ⟨_, fun b hb => ?_, Hx1.out.next x2 (fun b h hb => ?_), .inl ⟨by omega, hR2⟩⟩
    · rcases hb with (hb | hb) | hb
      · exact hb.elim
      · exact hb.1
      · omega
    · rcases h with h | h
      · exact h
      · omega
  have HK := Lib.hid hK
  clear x2 hR2 hK
  go_wp2_with fail
  go_loopw [5] (fun i wr => ∃ k : Nat, i = .int .i64 k ∧ k ≤ 10 ∧ Hid (KnownAt w wr r d k)) (fun i _ => 10 - (intOf i).toNat)
  case atStart => exact ⟨0, rfl, by omega, HK⟩
  case round =>
    obtain ⟨k, rfl, hk, HK'⟩ := hrel
    by_cases hlt : k < 10
    · have Hs := Lib.hid (HK'.out.step hlt)
      go_wp2_with fail
      refine Hs.out.mono ?_; rintro e w3 ⟨⟨a, n, c, rfl⟩, hK3⟩
      have HK3 := Lib.hid hK3
      clear hK3
      go_wp2_with fail
      go_roundw
      case rel => exact ⟨k + 1, by go_num, by omega, HK3⟩
      case measure => simp [intOf]; omega
    · obtain rfl : k = 10 := by omega
      obtain ⟨F, hF, hx, ⟨h10, _⟩ | ⟨_, hR⟩⟩ := HK'.out
      · omega
      obtain ⟨D, ps, hN, hrm, hperm⟩ := hR.is
      have hst := State_any r d F aloneN D ps wr hN
      obtain ⟨f1, f2, f3, f4, f5, f6⟩ := alone_facts
      rw [f1, f2, f3] at hst
      have Hst := Lib.hid hst
      have HR := Lib.hid hR
      have HF := Lib.hid hF
      have Hx := Lib.hid hx
      have Hf := Lib.hid (And.intro f4 (And.intro f5 f6))
      clear hst hR hN hrm hperm hF hx f1 f2 f3 f4 f5 f6
      go_wp2_with fail
      refine Hst.out.mono ?_; rintro e w3 ⟨rfl, x3⟩
      obtain ⟨f4, f5, f6⟩ := Hf.out
      have htake := Take_any r d F aloneN 10000 true w3 (HR.out.no x3) (fun e he => by rw [f6] at he; simp at he; subst he; exact ⟨by decide, Nat.zero_le _⟩) (by rw [f4, f5]; omega)
      rw [f4, f5, f6] at htake
      have Htake := Lib.hid htake
      have Hx3 := Lib.hid x3
      clear htake f4 f5 f6 x3
      go_wp2_with fail
      refine Htake.out.mono ?_; rintro e w4 ⟨v, rfl, hm4, hf4, x4, r4⟩
      obtain ⟨ms, hms, hown⟩ := hm4
      have xF : Ext NoB w w4 := (Hx.out.trans Hx3.out).next x4 (fun b h hb => by have := HF.out b h; omega)
      obtain ⟨m, rfl, dv, rfl, od⟩ := hms.single
      obtain ⟨da, dc, rfl, _, _⟩ := Rd.shape od.rd
      obtain ⟨vb, vn, vc, rfl, hvl, hvn, hvc, _, hvr⟩ := hown.rd
      have hvn1 : vn = 1 := by simp at hvl; omega
      subst hvn1
      obtain ⟨b, off, rfl, hcell⟩ := hvr (by simp)
      have cv0 := hcell 1 _ rfl
      rw [show (bytesV []).length = 0 from rfl] at cv0
      have HxF := Lib.hid xF
      clear hms hown od hvl hvr hcell xF r4 x4 hf4
      go_wp2_with fail
      go_ret
      exact ⟨rfl, HxF.out⟩
end Go.Proofs.YtgglbholbkdgfaaGreatDoor
