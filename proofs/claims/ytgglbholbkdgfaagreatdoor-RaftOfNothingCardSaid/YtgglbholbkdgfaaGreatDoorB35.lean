/- Package raft: reader.number of what Uvarint wrote. -/
import Derived.Test.YtgglbholbkdgfaaGreatDoorB34
namespace Go.Proofs.YtgglbholbkdgfaaGreatDoor
open Go.RowKit

theorem ruv_uvF : ∀ (k i n acc : Nat) (tl : List UInt8), i + k = 10 → i ≤ 8 → n < 2 ^ (7 * (9 - i)) → (i = 0 ∨ n ≠ 0) → ruv (uvF k n ++ tl) i acc = (acc + n * 2 ^ (7 * i), i + (uvF k n).length, 0) := by
  intro k
  induction k with
  | zero => intro i n acc tl h1 h2; omega
  | succ k ih =>
    intro i n acc tl h1 h2 h3 h4
    rw [uvF]
    by_cases hn : n < 128
    · rw [if_pos hn]
      have hc : (UInt8.ofNat n).toNat = n := by rw [UInt8.toNat_ofNat']; omega
      rw [List.singleton_append, ruv, hc, if_neg (by omega), if_neg (by rintro (⟨h, h'⟩ | ⟨h, _⟩) <;> omega)]
      rfl
    · rw [if_neg hn]
      have hc : (UInt8.ofNat (n % 128 + 128)).toNat = n % 128 + 128 := by rw [UInt8.toNat_ofNat']; omega
      have h8 : i < 8 := by
        rcases Nat.lt_or_ge i 8 with h | h
        · exact h
        · have : i = 8 := by omega
          subst this
          simp at h3
          omega
      rw [List.cons_append, ruv, hc, if_pos (by omega), if_neg (by omega)]
      have e1 : 2 ^ (7 * (9 - i)) = 128 * 2 ^ (7 * (9 - (i + 1))) := by
        have : 7 * (9 - i) = 7 + 7 * (9 - (i + 1)) := by omega
        rw [this, Nat.pow_add]
      rw [ih (i + 1) (n / 128) _ tl (by omega) (by omega) (by rw [e1] at h3; exact Nat.div_lt_of_lt_mul h3) (.inr (by omega))]
      have e2 : (n % 128 + 128) % 128 = n % 128 := by omega
      have e3 : 2 ^ (7 * (i + 1)) = 128 * 2 ^ (7 * i) := by rw [show 7 * (i + 1) = 7 + 7 * i by omega, Nat.pow_add]
      rw [e2, e3]
      refine Prod.ext ?_ (Prod.ext ?_ rfl)
      · show acc + n % 128 * 2 ^ (7 * i) + n / 128 * (128 * 2 ^ (7 * i)) = acc + n * 2 ^ (7 * i)
        rw [← Nat.mul_assoc, Nat.add_assoc, ← Nat.add_mul]
        congr 2
        omega
      · show i + 1 + _ = i + (_ :: _).length
        simp only [List.length_cons]
        omega
theorem ruv_uv (n : Nat) (tl : List UInt8) (h : n ≤ 1099511627776) : ruv (uv n ++ tl) 0 0 = (n, (uv n).length, 0) := by
  have h2 : (1099511627776 : Nat) < 2 ^ (7 * (9 - 0)) := by decide
  have := ruv_uvF 10 0 n 0 tl rfl (by omega) (Nat.lt_of_le_of_lt h h2) (.inl rfl)
  simpa [uv] using this

set_option maxRecDepth 100000 in
set_option maxHeartbeats 1000000 in
theorem number_ok (X n : Nat) (a : Option Addr) (c : Nat) (bl tl : List UInt8) (w : World) (hb : w.heap[X]? = some (.cells #[.slice a bl.length c, .bool false] 97 (0, 0))) (hr : RdB w (.slice a bl.length c) bl) (he : bl = uv n ++ tl) (hn : n ≤ 1099511627776) (hl : bl.length < 1000000000000) (hlc : bl.length ≤ c) :
    Calls Tryz.prog 37 #[.pointer (some ⟨X, 0, none⟩)] w fun e w' => e = .returned (.int .i64 n) ∧ Ext (fun b => b = X) w w' ∧
      w'.heap[X]? = some (.cells #[.slice (subA a (uv n).length c) (bl.length - (uv n).length) (c - (uv n).length), .bool false] 97 (0, 0)) := by
  have c0 : w.cell? ⟨X, 0, none⟩ = some (.slice a bl.length c) := by rw [cell_of_blk hb]; rfl
  have c1 : w.cell? ⟨X, 1, none⟩ = some (.bool false) := by rw [cell_of_blk hb]; rfl
  have f0 : w.frozen? ⟨X, 0, none⟩ = false := frozen_of_blk hb 0
  have hread := ReadUvarint_any (.slice a bl.length c) bl w hr hl
  have hru : ruv bl 0 0 = (n, (uv n).length, 0) := by rw [he]; exact ruv_uv n tl hn
  rw [hru] at hread
  have hk := uv_length n
  obtain ⟨k, hkk⟩ : ∃ k, (uv n).length = k := ⟨_, rfl⟩
  have hkl : k ≤ bl.length := by rw [he, List.length_append]; omega
  rw [hkk] at hread hk ⊢
  have hsub := fun (w : World) => run_sub_l (P := Tryz.prog) w 35 5 unBytes szByte a bl.length c .i64 (k : Int) (by omega) (by omega)
  have hq : ¬ ((1099511627776 : Int) < (n : Int)) := by omega
  have hwn : IntKind.i64.wrap (n : Int) = (n : Int) := IntWalk.i64_in _ (by omega)
  have Hread := Lib.hid hread
  have HB := Lib.hid hb
  clear hread hru hkk he hb hr hl
  go_enter Tryz.func37, Tryz.ntmps37
  go_wp2_with fail
  refine Hread.out.mono ?_; rintro e w1 ⟨rfl, rfl⟩
  unfold ruvV
  go_wp2_with fail
  go_ret
  exact ⟨rfl, (Ext.refl (fun b => b = X) w).setCell (p := ⟨X, 0, none⟩) (.inl rfl) _, blk_setCell HB.out 0 _⟩
end Go.Proofs.YtgglbholbkdgfaaGreatDoor
