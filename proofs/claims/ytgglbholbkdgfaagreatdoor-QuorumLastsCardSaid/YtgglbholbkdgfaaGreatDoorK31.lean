/- Joined texts: B147 B149. Each has its own head. -/
import Derived.Test.YtgglbholbkdgfaaGreatDoorB142
import Derived.Test.YtgglbholbkdgfaaGreatDoorB143
import Derived.Test.YtgglbholbkdgfaaGreatDoorB144
import Derived.Test.YtgglbholbkdgfaaGreatDoorB145
import Derived.Test.YtgglbholbkdgfaaGreatDoorB146
import Derived.Test.YtgglbholbkdgfaaGreatDoorK30
set_option linter.unusedVariables false
set_option linter.unusedSimpArgs false
namespace Go.Proofs.YtgglbholbkdgfaaGreatDoor
open Go.RowKit
theorem runs1 (k : Nat) (h : k < 12) : stageB 1 k (ticksOf k) (stT 1 tbl1 k) (stT 1 tbl1 (k + 1)) = true := by
 match k, h with
 | 0, _ => exact run1_0
 | 1, _ => exact run1_1
 | 2, _ => exact run1_2
 | 3, _ => exact run1_3
 | 4, _ => exact run1_4
 | 5, _ => exact run1_5
 | 6, _ => exact run1_6
 | 7, _ => exact run1_7
 | 8, _ => exact run1_8
 | 9, _ => exact run1_9
 | 10, _ => exact run1_10
 | 11, _ => exact run1_11
theorem runs3 (k : Nat) (h : k < 12) : stageB 3 k (ticksOf k) (stT 3 tbl3 k) (stT 3 tbl3 (k + 1)) = true := by
 match k, h with
 | 0, _ => exact run3_0
 | 1, _ => exact run3_1
 | 2, _ => exact run3_2
 | 3, _ => exact run3_3
 | 4, _ => exact run3_4
 | 5, _ => exact run3_5
 | 6, _ => exact run3_6
 | 7, _ => exact run3_7
 | 8, _ => exact run3_8
 | 9, _ => exact run3_9
 | 10, _ => exact run3_10
 | 11, _ => exact run3_11
theorem runs5 (k : Nat) (h : k < 12) : stageB 5 k (ticksOf k) (stT 5 tbl5 k) (stT 5 tbl5 (k + 1)) = true := by
 match k, h with
 | 0, _ => exact run5_0
 | 1, _ => exact run5_1
 | 2, _ => exact run5_2
 | 3, _ => exact run5_3
 | 4, _ => exact run5_4
 | 5, _ => exact run5_5
 | 6, _ => exact run5_6
 | 7, _ => exact run5_7
 | 8, _ => exact run5_8
 | 9, _ => exact run5_9
 | 10, _ => exact run5_10
 | 11, _ => exact run5_11
end Go.Proofs.YtgglbholbkdgfaaGreatDoor
namespace Go.Proofs.YtgglbholbkdgfaaGreatDoor
open Go.RowKit
def sumW (l : List (List UInt8)) : Nat := (l.map (fun r => 1 + r.length)).sum
theorem sumW_take {l : List (List UInt8)} {k : Nat} {r : List UInt8} (h : l[k]? = some r) : sumW (l.take (k + 1)) = sumW (l.take k) + 1 + r.length := by
 rw [take_succ_some h]
 simp [sumW]
 omega
theorem sumW_take_le (l : List (List UInt8)) : ∀ k, sumW (l.take k) ≤ sumW l := by
 induction l with
 | nil => intro k; simp [sumW]
 | cons r l ih =>
  intro k
  cases k with
  | zero => simp [sumW]
  | succ k => have := ih k; simp [sumW] at this ⊢; omega
theorem sumW_mem {l : List (List UInt8)} {r : List UInt8} (h : r ∈ l) : 1 + r.length ≤ sumW l := by
 induction l with
 | nil => cases h
 | cons x l ih =>
  rcases List.mem_cons.1 h with rfl | h
  ·simp [sumW]
  ·have := ih h; simp [sumW] at this ⊢; omega
structure AllTook (G : PGroup) (n : Nat) (l : List Ent) : Prop where
 len : G.mem.length = n
 num : G.n = n
 is : ∀ k, k < n → ∃ m, G.mem[k]? = some m ∧ m.up = true ∧ m.took = l
theorem allTook_of {G : PGroup} {n : Nat} {l : List Ent} (h : G.allTook n l = true) : AllTook G n l := by
 unfold PGroup.allTook at h
 simp only [Bool.and_eq_true, decide_eq_true_eq, List.all_eq_true] at h
 obtain ⟨⟨h1, h2⟩, h4⟩ := h
 refine ⟨h1, h2, fun k hk => ?_⟩
 obtain ⟨m, hm⟩ : ∃ m, G.mem[k]? = some m := ⟨_, List.getElem?_eq_getElem (by omega)⟩
 exact ⟨m, hm, h4 m (List.mem_of_getElem? hm)⟩
def LastOf (n k : Nat) (B : PGroup) : Prop := ∃ D, PGroup.settle 100 B = some D ∧ AllTook D n (rowLog k ++ [(k + 1, [])])
theorem lastOf_of {n k : Nat} {B : PGroup} (h : lastB n k B = true) : LastOf n k B := by
 unfold lastB at h
 split at h
 ·cases h
 ·next D hD =>
  rw [settleF_eq] at hD
  exact ⟨D, hD, allTook_of h⟩
structure Stage (n k : Nat) (A T B P S C T' : PGroup) : Prop where
 run : PGroup.settle (ticksOf k) A = some B
 last : LastOf n k B
 prop : B.proposeAll [UInt8.ofNat (k + 1)] n 0 = some P
 five : PGroup.settle 5 P = some S
 took : AllTook S n (rowLog (k + 1))
 cr : S.crashes n 0 = some C
 st : C.startAll n 0 = some T'
 lk : T'.like T = true
theorem stage_of {n k : Nat} {A T : PGroup} (h : stageB n k (ticksOf k) A T = true) : ∃ B P S C T', Stage n k A T B P S C T' := by
 unfold stageB at h
 split at h
 ·cases h
 ·next B hB =>
  rw [settleF_eq] at hB
  rw [Bool.and_eq_true] at h
  obtain ⟨h1, h⟩ := h
  unfold rowB at h
  split at h
  ·cases h
  ·next P hP =>
   split at h
   ·cases h
   ·next S hS =>
    rw [settleF_eq] at hS
    rw [Bool.and_eq_true] at h
    obtain ⟨h2, h⟩ := h
    split at h
    ·cases h
    ·next C hC =>
     split at h
     ·cases h
     ·next T' hT => exact ⟨B, P, S, C, T', hB, lastOf_of h1, hP, hS, allTook_of h2, hC, hT, h⟩
structure LastsRun (n : Nat) (A : Nat → PGroup) : Prop where
 zero : A 0 = PGroup.newG n
 len : ∀ k, k ≤ 12 → (A k).mem.length = n ∧ (A k).n = n
 stage : ∀ k, k < 12 → ∃ B P S C T', Stage n k (A k) (A (k + 1)) B P S C T'
 last : ∃ B, PGroup.settle (ticksOf 12) (A 12) = some B ∧ LastOf n 12 B
theorem LastsRun.at {n : Nat} {A : Nat → PGroup} (h : LastsRun n A) (k : Nat) (hk : k ≤ 12) : ∃ B, PGroup.settle (ticksOf k) (A k) = some B ∧ LastOf n k B := by
 by_cases h12 : k = 12
 ·subst h12; exact h.last
 ·obtain ⟨B, P, S, C, T', hs⟩ := h.stage k (by omega)
  exact ⟨B, hs.run, hs.last⟩
theorem stageE_of {n k : Nat} {A : PGroup} (h : stageE n k (ticksOf k) A = true) : ∃ B, PGroup.settle (ticksOf k) A = some B ∧ LastOf n k B := by
 unfold stageE at h
 split at h
 ·cases h
 ·next B hB =>
  rw [settleF_eq] at hB
  simp only [Bool.and_eq_true] at h
  exact ⟨B, hB, lastOf_of h.2⟩
theorem openedL_len (n : Nat) (log : List Ent) : ∀ (i : Nat) (l : List (Nat × Int × Int)), (openedL n log i l).length = l.length
 | _, [] => rfl
 | i, x :: l => by rw [openedL, List.length_cons, openedL_len n log (i + 1) l, List.length_cons]
theorem stT_len {n : Nat} {tbl : List (List (Nat × Int × Int) × Nat)} (ht : tbl.all (fun x => Nat.beq x.1.length n) = true) (k : Nat) : (stT n tbl k).mem.length = n ∧ (stT n tbl k).n = n := by
 cases k with
 | zero => exact newG_keep n
 | succ k =>
  unfold stT
  dsimp only
  split
  ·next x hx =>
   have := List.all_eq_true.1 ht x (List.mem_of_getElem? hx)
   rw [Nat.beq_eq] at this
   exact ⟨by show (openedL n _ 0 x.1).length = n; rw [openedL_len]; exact this, rfl⟩
  ·exact newG_keep n
theorem lasts1 : LastsRun 1 (stT 1 tbl1) := ⟨rfl, fun k _ => stT_len (by decide +kernel) k, fun k hk => stage_of (runs1 k hk), stageE_of run1_12⟩
theorem lasts3 : LastsRun 3 (stT 3 tbl3) := ⟨rfl, fun k _ => stT_len (by decide +kernel) k, fun k hk => stage_of (runs3 k hk), stageE_of run3_12⟩
theorem lasts5 : LastsRun 5 (stT 5 tbl5) := ⟨rfl, fun k _ => stT_len (by decide +kernel) k, fun k hk => stage_of (runs5 k hk), stageE_of run5_12⟩
theorem rowLog_len : ∀ k, (rowLog k).length = 2 * k
 | 0 => rfl
 | k + 1 => by rw [rowLog, List.length_append, rowLog_len k]; simp; omega
theorem rowLog_get : ∀ (k t : Nat), t < k → (rowLog k)[2 * t]? = some (t + 1, []) ∧ (rowLog k)[2 * t + 1]? = some (t + 1, [UInt8.ofNat (t + 1)])
 | 0, t, h => by omega
 | k + 1, t, h => by
  have hl := rowLog_len k
  rw [rowLog]
  by_cases hk : t < k
  ·rw [List.getElem?_append_left (by omega), List.getElem?_append_left (by omega)]
   exact rowLog_get k t hk
  ·obtain rfl : t = k := by omega
   rw [List.getElem?_append_right (by omega), List.getElem?_append_right (by omega), hl, Nat.sub_self, Nat.add_sub_cancel_left]
   exact ⟨rfl, rfl⟩
theorem proposeAll_succ {G P : PGroup} {p : List UInt8} {f j : Nat} (h : G.proposeAll p (f + 1) j = some P) : ∃ n c G1, G.propose j p = some ((n, c), G1) ∧ G1.proposeAll p f (j + 1) = some P := by
 rw [PGroup.proposeAll] at h
 cases hc : G.propose j p with
 | none => rw [hc] at h; cases h
 | some q => obtain ⟨⟨n, c⟩, G1⟩ := q; rw [hc] at h; exact ⟨n, c, G1, rfl, h⟩
theorem crashes_succ {G P : PGroup} {f j : Nat} (h : G.crashes (f + 1) j = some P) : ∃ G1, G.crash j = some G1 ∧ G1.crashes f (j + 1) = some P := by
 rw [PGroup.crashes] at h
 cases hc : G.crash j with
 | none => rw [hc] at h; cases h
 | some G1 => rw [hc] at h; exact ⟨G1, rfl, h⟩
theorem startAll_succ {G P : PGroup} {f j : Nat} (h : G.startAll (f + 1) j = some P) : ∃ G1, G.start j = some G1 ∧ G1.startAll f (j + 1) = some P := by
 rw [PGroup.startAll] at h
 cases hc : G.start j with
 | none => rw [hc] at h; cases h
 | some G1 => rw [hc] at h; exact ⟨G1, rfl, h⟩
def tokR (rows : List (List UInt8)) (x : List UInt8) : List UInt8 := match x with | [] => [] | t :: _ => rows.getD (t.toNat - 1) []
theorem tokR_ok {rows : List (List UInt8)} (h : sumW rows ≤ 3000) : Tok (tokR rows) := by
 refine ⟨rfl, fun x => ?_⟩
 cases x with
 | nil => exact Nat.zero_le _
 | cons t l =>
  show (rows.getD (t.toNat - 1) []).length ≤ 3000
  rw [List.getD_eq_getElem?_getD]
  cases hr : rows[t.toNat - 1]? with
  | none => exact Nat.zero_le _
  | some r =>
   have := sumW_mem (List.mem_of_getElem? hr)
   show r.length ≤ 3000
   omega
theorem tokR_row {rows : List (List UInt8)} {i : Nat} {r : List UInt8} (h : rows[i]? = some r) (hi : i < 12) : tokR rows [UInt8.ofNat (i + 1)] = r := by
 show rows.getD ((UInt8.ofNat (i + 1)).toNat - 1) [] = r
 have e : (UInt8.ofNat (i + 1)).toNat - 1 = i := by
  rw [UInt8.toNat_ofNat']
  omega
 rw [e, List.getD_eq_getElem?_getD, h]
 rfl
end Go.Proofs.YtgglbholbkdgfaaGreatDoor
