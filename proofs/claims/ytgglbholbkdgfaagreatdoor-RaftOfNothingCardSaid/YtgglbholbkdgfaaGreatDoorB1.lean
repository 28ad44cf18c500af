/- The program's type facts that the walks use, and package bits: Uvarint. -/
import Derived.Test.YtgglbholbkdgfaaGreatDoorRows
import Derived.Test.YtgglbholbkdgfaaGreatDoorB0
import Derived.WalkLawsBesides
import Derived.WalkSpells
import Derived.Deep.QuietTactic
import Derived.BigQuiet
import Derived.BigRegion
import Derived.Lib.Hide
namespace Go.Proofs.YtgglbholbkdgfaaGreatDoor
open Go.RowKit

theorem elByte : ElemT Tryz.prog 5 1 1 := ElemT.of (z := .int .u8 0) (by kernel_rfl) rfl (by decide)
theorem elInt : ElemT Tryz.prog 3 1 8 := ElemT.of (z := .int .i64 0) (by kernel_rfl) rfl (by decide)
theorem elBytes : ElemT Tryz.prog 35 1 24 := ElemT.of (z := .slice none 0 0) (by kernel_rfl) rfl (by decide)
theorem unBytes : Tryz.prog.underlying 35 = some (.slice 5) := Tryz.underlying35
theorem unInts : Tryz.prog.underlying 34 = some (.slice 3) := Tryz.underlying34

/-- 2^64, behind a name. -/
def U64 : Nat := 18446744073709551616
/-- A number as bytes (bits.Uvarint). -/
def uvF : Nat → Nat → List UInt8
  | 0, _ => []
  | k + 1, n => if n < 128 then [UInt8.ofNat n] else UInt8.ofNat (n % 128 + 128) :: uvF k (n / 128)
def uv (n : Nat) : List UInt8 := uvF 10 n

theorem or128_all : ∀ n : Fin 256, bits .or .u8 (n.val : Int) 128 = ((n.val % 128 + 128 : Nat) : Int) := by decide +kernel
theorem or128 (n : Nat) : bits .or .u8 ((n : Int) % 256) 128 = ((UInt8.ofNat (n % 128 + 128)).toNat : Int) := by
  have h := or128_all ⟨n % 256, Nat.mod_lt _ (by decide)⟩
  have e : ((n : Int) % 256) = ((n % 256 : Nat) : Int) := by omega
  rw [e, h]
  have e2 : n % 256 % 128 = n % 128 := by omega
  simp only [e2, UInt8.toNat_ofNat']
  omega
theorem uvF_big (k m : Nat) (h : 128 ≤ m) : uvF (k + 1) m = UInt8.ofNat (m % 128 + 128) :: uvF k (m / 128) := by
  simp only [uvF]; rw [if_neg (by omega)]
theorem uvF_small (k m : Nat) (h : m < 128) : uvF (k + 1) m = [UInt8.ofNat m] := by
  simp only [uvF]; rw [if_pos h]
theorem pow7 (k m : Nat) (h : m < 2 ^ (7 * (k + 1))) : m / 128 < 2 ^ (7 * k) := by
  rw [Nat.mul_add, Nat.pow_add] at h
  exact Nat.div_lt_of_lt_mul (by rw [Nat.mul_comm]; exact h)

set_option maxRecDepth 100000 in
set_option maxHeartbeats 400000 in
theorem Uvarint_any (n : Nat) (hn : Hid (n < U64)) (w : World) :
    Calls Tryz.prog 78 #[.int .u64 n] w fun e w' => ∃ s, e = .returned s ∧ Own w' 5 1 s (bytesV (uv n)) ∧ Fresh w s ∧ Ext NoB w w' := by
  go_enter Tryz.func78, Tryz.ntmps78
  go_wp2_with fail
  go_loopw [0, 3] (fun v b wr => ∃ (k m : Nat) (bs : List UInt8), v = .int .u64 m ∧ 1 ≤ k ∧ k ≤ 10 ∧ Hid (m < 2 ^ (7 * k)) ∧ Own wr 5 1 b (bytesV bs) ∧ Fresh w b ∧ Ext NoB w wr ∧ Hid (bs.length + k = 10 ∧ bs ++ uvF k m = uv n)) (fun v _ _ => (intOf v).toNat)
  case atStart => exact ⟨10, n, [], rfl, by omega, by omega, show _ from Nat.lt_trans hn.out (by unfold U64; decide), Own.nil _ _ _, Fresh.nil _ _ _, Ext.refl _ _, ⟨rfl, rfl⟩⟩
  case round =>
    obtain ⟨k, m, bs, rfl, hk1, hk, hm, hown, hfr, hx, H⟩ := hrel
    have hl : bs.length ≤ 10 := by have := H.out.1; omega
    by_cases hlt : 128 ≤ m
    · go_wp2_with (at_builtin; refine wpList_app1 _ rfl (.tmp 6) (.tmp 10) 35 rfl 5 1 unBytes elByte hown rfl rfl rfl (by simp; omega) (by decide) ?_; intro v' w' hown' hx' hv')
      obtain ⟨k, rfl⟩ : ∃ j, k = j + 1 := ⟨k - 1, by omega⟩
      go_roundw
      case rel => exact ⟨k, m / 128, bs ++ [UInt8.ofNat (m % 128 + 128)], by go_num, by rcases k with _ | k; (have := pow7 0 m hm.out; simp at this; omega); omega, by omega, pow7 k m hm.out, by rw [bytesV_append]; simpa [bytesV, or128] using hown', hfr.app hx.size hv', hfr.ext hx hx', ⟨by have := H.out.1; simp; omega, by rw [← H.out.2, uvF_big k m hlt]; simp⟩⟩
      case measure => simp [intOf]; omega
    · go_wp2_with (at_builtin; refine wpList_app1 _ rfl (.tmp 14) (.tmp 17) 35 rfl 5 1 unBytes elByte hown rfl rfl rfl (by simp; omega) (by decide) ?_; intro v' w' hown' hx' hv')
      obtain ⟨k, rfl⟩ : ∃ j, k = j + 1 := ⟨k - 1, by omega⟩
      go_ret
      exact ⟨v', rfl, by rw [← H.out.2, uvF_small k m (by omega), bytesV_append]; simpa [bytesV, Int.emod_eq_of_lt (Int.natCast_nonneg m) (show (m : Int) < 256 by omega)] using hown', hfr.app hx.size hv', hfr.ext hx hx'⟩
end Go.Proofs.YtgglbholbkdgfaaGreatDoor
