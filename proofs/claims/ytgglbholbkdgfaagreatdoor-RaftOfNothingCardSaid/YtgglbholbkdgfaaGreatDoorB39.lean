/- Package raft: commits. -/
import Derived.Test.YtgglbholbkdgfaaGreatDoorB38
namespace Go.Proofs.YtgglbholbkdgfaaGreatDoor
open Go.RowKit

/-- Who has an entry, among the first k: digits. -/
def PNode.haveTo (N : PNode) (i : Nat) : Nat → Nat
  | 0 => 2 ^ N.id
  | k + 1 => if k ≠ N.id ∧ i ≤ N.mt k then N.haveTo i k ||| 2 ^ k else N.haveTo i k
/-- May an entry be committed? -/
def PNode.commitAt (N : PNode) (i : Nat) : Bool := decide (N.termOf i = N.term) && mostOf N.n (N.haveTo i N.n)
/-- What is committed behind commits: from i on down. -/
def PNode.commitFrom (N : PNode) : Nat → Nat
  | 0 => N.committed
  | i + 1 => if i + 1 ≤ N.committed then N.committed else if N.commitAt (i + 1) then i + 1 else N.commitFrom i
def PNode.commits (N : PNode) : PNode := { N with committed := N.commitFrom N.log.length }

theorem PNode.haveTo_lt (N : PNode) (i : Nat) (h : N.id < 5) : ∀ k, k ≤ 5 → N.haveTo i k < 32
  | 0, _ => by
    show 2 ^ N.id < 2 ^ 5
    exact Nat.pow_lt_pow_right (by decide) h
  | k + 1, hk => by
    have ih := N.haveTo_lt i h k (by omega)
    rw [PNode.haveTo]
    split
    · exact Nat.or_lt_two_pow (n := 5) ih (Nat.pow_lt_pow_right (by decide) (by omega))
    · exact ih
theorem PNode.commitFrom_low (N : PNode) : ∀ i, i ≤ N.committed → N.commitFrom i = N.committed
  | 0, _ => rfl
  | i + 1, h => by rw [PNode.commitFrom, if_pos h]
theorem PNode.commitFrom_le (N : PNode) : ∀ i, N.committed ≤ N.commitFrom i ∧ (N.commitFrom i ≤ i ∨ N.commitFrom i = N.committed)
  | 0 => ⟨Nat.le_refl _, .inr rfl⟩
  | i + 1 => by
    have ih := N.commitFrom_le i
    rw [PNode.commitFrom]
    split
    · exact ⟨Nat.le_refl _, .inr rfl⟩
    · split
      · exact ⟨by omega, Or.inl (Nat.le_refl _)⟩
      · exact ⟨ih.1, ih.2.imp (fun h => by omega) (fun h => h)⟩

theorem or_pow5 : ∀ a : Fin 32, ∀ k : Fin 5, bits BinOp.or IntKind.u8 ((a.val : Nat) : Int) (2 ^ k.val % 256) = ((a.val ||| 2 ^ k.val : Nat) : Int) := by decide
theorem or_pow (a k : Nat) (ha : a < 32) (hk : k < 5) : bits BinOp.or IntKind.u8 (a : Int) (2 ^ k % 256) = ((a ||| 2 ^ k : Nat) : Int) := or_pow5 ⟨a, ha⟩ ⟨k, hk⟩
set_option maxRecDepth 100000 in
set_option maxHeartbeats 4000000 in
theorem commits_any (r d : Nat) (F : Nat → Prop) (N : PNode) (D : PDisk) (ps : List PSeg) (w : World) (h : NodeIs w r d F N D ps) :
    Calls Tryz.prog 56 #[.pointer (some ⟨r, 0, none⟩)] w fun e w' => e = .returned (.bool (decide (N.committed < N.commits.committed))) ∧ Ext F w w' ∧ NodeIs w' r d F N.commits D ps := by
  have hmost := Lib.hid (fun (s : Nat) (hs : s ≤ 255) (w' : World) (x : Ext NoB w w') => most_any r d F N D ps s hs w' (h.no x))
  have hterm := Lib.hid (fun (i : Nat) (hi : i < 4611686018427387904) (w' : World) (x : Ext NoB w w') => termOf_any r d F N D ps i w' (h.no x) hi)
  have hlast := Lib.hid (rlast_any r d F N D ps w h)
  have H := Lib.hid h
  obtain ⟨L, FD, FL, FR, tv, dl, hA, hF, hlt⟩ := h
  have hl100 := hA.len
  have hb := hA.blk
  have hi1 := hA.idn.1
  have hi2 := hA.idn.2
  have hcm := hA.comm
  have c0 : w.cell? ⟨r, 0, none⟩ = some (.int .i64 N.id) := by rw [cell_of_blk hb]; rfl
  have c1 : w.cell? ⟨r, 1, none⟩ = some (.int .i64 N.n) := by rw [cell_of_blk hb]; rfl
  have c5 : w.cell? ⟨r, 5, none⟩ = some (.int .i64 N.term) := by rw [cell_of_blk hb]; rfl
  have c9 : w.cell? ⟨r, 9, none⟩ = some (.int .i64 N.committed) := by rw [cell_of_blk hb]; rfl
  have cm : ∀ k, k < 5 → w.cell? ⟨r, 18 + k, none⟩ = some (.int .i64 (N.mt k)) := by
    intro k hk
    rw [cell_of_blk hb]
    match k, hk with
    | 0, _ => rfl
    | 1, _ => rfl
    | 2, _ => rfl
    | 3, _ => rfl
    | 4, _ => rfl
  have Cm := Lib.hid cm
  have hpw : IntKind.u8.wrap ((2 : Int) ^ N.id) = ((2 ^ N.id : Nat) : Int) := by
    have h1 : (2 : Nat) ^ N.id ≤ 2 ^ 4 := Nat.pow_le_pow_right (by decide) (by omega)
    have h2 : ((2 : Int) ^ N.id) = ((2 ^ N.id : Nat) : Int) := by simp
    rw [h2, IntKind.wrap_u8]
    generalize (2 : Nat) ^ N.id = q at h1
    omega
  have Hb := Lib.hid hb
  clear hA hF hlt hb cm
  go_enter Tryz.func56, Tryz.ntmps56
  go_wp2_with fail
  refine hlast.out.mono ?_; rintro e w1 ⟨rfl, rfl⟩
  go_wp2_with fail
  go_loopw [3] (fun v wr => ∃ i : Nat, v = .int .i64 i ∧ i ≤ N.log.length ∧ Hid (N.commitFrom N.log.length = N.commitFrom i) ∧ Ext NoB w wr) (fun v _ => (intOf v).toNat)
  case atStart => exact ⟨N.log.length, rfl, Nat.le_refl _, Lib.hid rfl, Ext.refl _ _⟩
  case round =>
    obtain ⟨i, rfl, hi, HC, hx⟩ := hrel
    have c0r := hx.cell c0 (fun h => h)
    have c1r := hx.cell c1 (fun h => h)
    have c5r := hx.cell c5 (fun h => h)
    have c9r := hx.cell c9 (fun h => h)
    obtain ⟨wo, rfl⟩ : ∃ wo : World, wo = wr := ⟨_, rfl⟩
    by_cases hgt : N.committed < i
    · go_wp2_with fail
      go_loop [4, 27] (fun hv kv => ∃ k : Nat, kv = .int .i64 k ∧ k ≤ N.n ∧ hv = .int .u8 (N.haveTo i k : Nat)) (fun _ kv => N.n - (intOf kv).toNat)
      case atStart => exact ⟨0, rfl, Nat.zero_le _, by simp [PNode.haveTo]⟩
      case round =>
        obtain ⟨k, rfl, hk, rfl⟩ := hrel
        by_cases hkn : k < N.n
        · have ck := hx.cell (Cm.out k (by omega)) (fun h => h)
          have hsuc : N.haveTo i (k + 1) = if k ≠ N.id ∧ i ≤ N.mt k then N.haveTo i k ||| 2 ^ k else N.haveTo i k := rfl
          have Hsuc := Lib.hid hsuc
          clear hsuc
          by_cases hki : k = N.id
          · have hb1 : (((k : Int)) != (N.id : Int)) = false := by rw [hki]; simp
            go_wp2_with fail
            go_round
            case rel => exact ⟨k + 1, by go_num, by omega, by rw [Hsuc.out, if_neg (fun h => h.1 hki)]⟩
            case measure => simp [intOf]; omega
          · have hb1 : (((k : Int)) != (N.id : Int)) = true := by rw [bne_iff_ne]; omega
            by_cases hm : i ≤ N.mt k
            · go_wp2_with fail
              go_round
              case rel =>
                exact ⟨k + 1, by go_num, by omega, by rw [Hsuc.out, if_pos ⟨hki, hm⟩, or_pow _ _ (N.haveTo_lt i (by omega) k (by omega)) (by omega)]⟩
              case measure => simp [intOf]; omega
            · go_wp2_with fail
              go_round
              case rel => exact ⟨k + 1, by go_num, by omega, by rw [Hsuc.out, if_neg (fun h => hm h.2)]⟩
              case measure => simp [intOf]; omega
        · obtain rfl : k = N.n := by omega
          obtain ⟨i', rfl⟩ : ∃ i', i = i' + 1 := ⟨i - 1, by omega⟩
          have hcf : N.commitFrom (i' + 1) = if N.commitAt (i' + 1) then i' + 1 else N.commitFrom i' := by rw [PNode.commitFrom, if_neg (by omega)]
          have hv := N.haveTo_lt (i' + 1) (by omega) N.n (by omega)
          have Hm := Lib.hid (hmost.out (N.haveTo (i' + 1) N.n) (by omega))
          have hat : N.commitAt (i' + 1) = (decide (N.termOf (i' + 1) = N.term) && mostOf N.n (N.haveTo (i' + 1) N.n)) := rfl
          have Hcf := Lib.hid hcf
          have Hat := Lib.hid hat
          clear hcf hat hv
          obtain ⟨hvv, hhv⟩ : ∃ hvv, N.haveTo (i' + 1) N.n = hvv := ⟨_, rfl⟩
          obtain ⟨tm, htm⟩ : ∃ tm, N.termOf (i' + 1) = tm := ⟨_, rfl⟩
          obtain ⟨mo, hmo⟩ : ∃ mo, mostOf N.n hvv = mo := ⟨_, rfl⟩
          have Hte := Lib.hid (hterm.out (i' + 1) (by omega))
          rw [hhv, hmo] at Hm Hat
          rw [htm] at Hat Hte
          rw [hhv]
          clear hhv htm hmo hmost hterm
          have hw1 : IntKind.i64.wrap (((i' + 1 : Nat) : Int) - 1) = (i' : Int) := by rw [IntWalk.i64_in _ (by omega)]; omega
          obtain ⟨ii, hii⟩ : ∃ ii, i' + 1 = ii := ⟨_, rfl⟩
          rw [hii] at hi hgt Hcf Hat Hte hw1 HC ⊢
          have Hii := Lib.hid hii
          clear hii
          by_cases htt : tm = N.term
          · have hb1 : ((tm : Int) == (N.term : Int)) = true := by rw [htt]; simp
            cases mo with
            | true =>
              go_wp2_with fail
              refine (Hte.out wo hx).mono ?_; rintro e w2 ⟨rfl, rfl⟩
              go_wp2_with fail
              refine (Hm.out wo hx).mono ?_; rintro e w3 ⟨rfl, x3⟩
              have f9 : w3.frozen? ⟨r, 9, none⟩ = false := frozen_of_blk ((hx.trans x3).blk Hb.out (fun h => h)) 9
              have c93 := x3.cell c9r (fun h => h)
              go_wp2_with fail
              go_ret
              have y3 := hx.trans x3
              have e : N.commits.committed = ii := by show N.commitFrom N.log.length = _; rw [HC.out, Hcf.out, Hat.out, if_pos (by simp [htt])]
              have e2 : N.commits = { N with committed := ii } := by unfold PNode.commits; rw [show N.commitFrom N.log.length = ii from e]
              have xs : Ext (fun b => b = r) w3 (w3.setCell ⟨r, 9, none⟩ (.int .i64 ii)) := (Ext.refl (fun b => b = r) w3).setCell (p := ⟨r, 9, none⟩) (.inl rfl) _
              obtain ⟨L', FD', FL', FR', tv', dl', hA, hF, hlt⟩ := H.out.no y3
              rw [e2]
              refine ⟨retBool (decide_eq_true hgt).symm, (y3.of_no).next xs (fun b h _ => hF b (.inr (.inr (h ▸ hA.self)))), L', FD', FL', FR', tv', dl', hA.set xs (blk_setCell hA.blk 9 _) rfl ⟨hi1, hi2⟩ hi, hF, fun b hb => Nat.lt_of_lt_of_le (hlt b hb) xs.size⟩
            | false =>
              go_wp2_with fail
              refine (Hte.out wo hx).mono ?_; rintro e w2 ⟨rfl, rfl⟩
              go_wp2_with fail
              refine (Hm.out wo hx).mono ?_; rintro e w3 ⟨rfl, x3⟩
              go_wp2_with fail
              have hend : N.commitFrom N.log.length = N.commitFrom i' := by rw [HC.out, Hcf.out, Hat.out, if_neg (by simp)]
              have hii := Hii.out
              exact ⟨⟨i', rfl, by omega, Lib.hid hend, hx.trans x3⟩, by simp [intOf]⟩
          · have hb1 : ((tm : Int) == (N.term : Int)) = false := beq_eq_false_iff_ne.2 (by omega)
            go_wp2_with fail
            refine (Hte.out wo hx).mono ?_; rintro e w2 ⟨rfl, rfl⟩
            go_wp2_with fail
            have hend : N.commitFrom N.log.length = N.commitFrom i' := by rw [HC.out, Hcf.out, Hat.out, if_neg (by simp [htt])]
            have hii := Hii.out
            exact ⟨⟨i', rfl, by omega, Lib.hid hend, hx⟩, by simp [intOf]⟩
    · go_wp2_with fail
      go_ret
      have e : N.commits.committed = N.committed := by show N.commitFrom N.log.length = _; rw [HC.out, N.commitFrom_low i (by omega)]
      have e2 : N.commits = N := by unfold PNode.commits; rw [show N.commitFrom N.log.length = N.committed from e]
      refine ⟨by rw [e]; simp, (Ext.of_no hx), ?_⟩
      rw [e2]
      exact H.out.no hx
end Go.Proofs.YtgglbholbkdgfaaGreatDoor
