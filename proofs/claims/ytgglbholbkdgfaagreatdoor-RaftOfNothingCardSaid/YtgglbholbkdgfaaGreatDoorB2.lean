/- Package bits: ReadUvarint. -/
import Derived.Test.YtgglbholbkdgfaaGreatDoorB1
namespace Go.Proofs.YtgglbholbkdgfaaGreatDoor
open Go.RowKit

/-- bits.ReadUvarint, from the i-th byte on. -/
def ruv : List UInt8 → Nat → Nat → Nat × Nat × Nat
  | [], _, _ => (0, 0, 2)
  | c :: t, i, v => if 128 ≤ c.toNat then (if i = 9 then (0, 0, 3) else ruv t (i + 1) (v + c.toNat % 128 * 2 ^ (7 * i)))
      else if (c.toNat = 0 ∧ 0 < i) ∨ (i = 9 ∧ 1 < c.toNat) then (0, 0, 3) else (v + c.toNat * 2 ^ (7 * i), i + 1, 0)

def ruvV (r : Nat × Nat × Nat) : Value := .tuple #[.int .u64 r.1, .int .i64 r.2.1, .int .i64 r.2.2]

theorem or_add (m y i : Nat) (hm : m < 2 ^ i) (hy : y % 2 ^ i = 0) (h1 : m < 18446744073709551616) (h2 : y < 18446744073709551616) : bits .or .u64 (m : Int) (y : Int) = ((m + y : Nat) : Int) := by
  rw [u64_or_nat m y h1 h2, Nat.or_comm, nat_join i y m hy hm, Nat.add_comm]
theorem pow7_le (k : Nat) (hk : k ≤ 9) : 2 ^ (7 * k) ≤ 9223372036854775808 := Nat.pow_le_pow_right (n := 2) (by decide) (show 7 * k ≤ 63 by omega)
theorem pow7_le8 (k : Nat) (hk : k ≤ 8) : 2 ^ (7 * k) ≤ 72057594037927936 := Nat.pow_le_pow_right (n := 2) (by decide) (show 7 * k ≤ 56 by omega)
theorem ruv_or (m x k : Nat) (hk : k ≤ 9) (hm : m < 2 ^ (7 * k)) (hx : x < 128) (hx9 : k = 9 → x ≤ 1) : bits .or .u64 (m : Int) (IntKind.u64.wrap ((x : Int) * 2 ^ (7 * k))) = ((m + x * 2 ^ (7 * k) : Nat) : Int) := by
  have hb : x * 2 ^ (7 * k) < 18446744073709551616 := by
    by_cases h : k = 9
    · subst h; have := hx9 rfl; simp; omega
    · have h1 := pow7_le8 k (by omega)
      have := Nat.mul_le_mul (show x ≤ 127 by omega) h1
      omega
  have e : (x : Int) * 2 ^ (7 * k) = ((x * 2 ^ (7 * k) : Nat) : Int) := by simp
  rw [e, IntKind.wrap_u64]
  have e2 : ((x * 2 ^ (7 * k) : Nat) : Int) % 18446744073709551616 = ((x * 2 ^ (7 * k) : Nat) : Int) := by omega
  rw [e2]
  exact or_add m _ (7 * k) hm (Nat.mul_mod_left _ _) (by have := pow7_le k hk; omega) hb
theorem and127 (x : Nat) (hx : x < 256) : IntKind.u64.wrap (bits .and .u8 (x : Int) 127) = ((x % 128 : Nat) : Int) := by
  have := u8_and_nat x 127 hx (by decide)
  rw [show ((127 : Nat) : Int) = 127 from rfl] at this
  rw [this, nat_mask7, IntKind.wrap_u64]
  omega
theorem ruv_step (m x k : Nat) (hk : k ≤ 8) (hm : m < 2 ^ (7 * k)) (hx : x < 256) :
    bits .or .u64 (m : Int) (IntKind.u64.wrap (IntKind.u64.wrap (bits .and .u8 (x : Int) 127) * 2 ^ (7 * k))) = ((m + x % 128 * 2 ^ (7 * k) : Nat) : Int) := by
  rw [and127 x hx]
  exact ruv_or m (x % 128) k (by omega) hm (by omega) (by omega)
theorem ruv_lt (m x k : Nat) (hm : m < 2 ^ (7 * k)) : m + x % 128 * 2 ^ (7 * k) < 2 ^ (7 * (k + 1)) := by
  have h1 : x % 128 ≤ 127 := by omega
  have := Nat.mul_le_mul_right (2 ^ (7 * k)) h1
  have e : 2 ^ (7 * (k + 1)) = 128 * 2 ^ (7 * k) := by rw [Nat.mul_add, Nat.pow_add]; omega
  omega
theorem ret3 {k1 k2 k3 : IntKind} {a b c a' b' c' : Int} (h1 : a = a') (h2 : b = b') (h3 : c = c') : Ending.returned (.tuple #[.int k1 a, .int k2 b, .int k3 c]) = Ending.returned (.tuple #[.int k1 a', .int k2 b', .int k3 c']) := by rw [h1, h2, h3]
theorem drop_cons (l : List UInt8) (i : Nat) (h : i < l.length) : l.drop i = l[i] :: l.drop (i + 1) := List.drop_eq_getElem_cons h

set_option maxRecDepth 100000 in
set_option maxHeartbeats 400000 in
theorem ReadUvarint_any (s : Value) (l : List UInt8) (w : World) (hs : RdB w s l) (hlen : l.length < 1000000000000) :
    Calls Tryz.prog 71 #[s] w fun e w' => e = .returned (ruvV (ruv l 0 0)) ∧ w = w' := by
  obtain ⟨a, n, c, rfl, hl, hn, hc, hsp, hr⟩ := hs
  have hl' : n = l.length := by simpa using hl.symm
  subst hl'
  go_enter Tryz.func71, Tryz.ntmps71
  go_wp2_with fail
  go_loop [5, 10] (fun v i => ∃ (k m : Nat), i = .int .i64 k ∧ v = .int .u64 m ∧ k ≤ 9 ∧ k ≤ l.length ∧ Hid (m < 2 ^ (7 * k)) ∧ Hid (ruv (l.drop k) k m = ruv l 0 0)) (fun _ i => l.length - (intOf i).toNat)
  case atStart => exact ⟨0, 0, rfl, rfl, by omega, by omega, (show 0 < 2 ^ (7 * 0) by decide), rfl⟩
  case round =>
    obtain ⟨k, m, rfl, rfl, hk, hkl, hm, H⟩ := hrel
    by_cases hlt : k < l.length
    · obtain ⟨b, off, rfl, hcell⟩ := hr (by intro h; simp [bytesV] at h; simp [h] at hlt)
      have hck : w.cell? ⟨b, off + k, none⟩ = some (.int .u8 l[k].toNat) := hcell k _ (by simp [bytesV, hlt])
      have H2 := Lib.hid (drop_cons l k hlt)
      obtain ⟨x, hx⟩ : ∃ x, l[k] = x := ⟨_, rfl⟩
      rw [hx] at hck
      have Hx := Lib.hid hx
      clear hx hr hcell
      have hx256 : x.toNat < 256 := x.toNat_lt
      by_cases hbig : 128 ≤ x.toNat
      · by_cases h9 : k = 9
        · subst h9
          go_wp2_with fail
          go_ret3
          exact ⟨by rw [← H.out, H2.out, ruv, Hx.out, if_pos hbig, if_pos rfl]; rfl, rfl⟩
        · have h9' : ((k : Int) == 9) = false := beq_eq_false_iff_ne.2 (by omega)
          go_wp2_with fail
          go_round
          case rel => exact ⟨k + 1, m + x.toNat % 128 * 2 ^ (7 * k), by go_num, by rw [ruv_step m x.toNat k (by omega) hm.out hx256], by omega, by omega, ruv_lt m x.toNat k hm.out, Lib.hid (by rw [← H.out, H2.out, ruv, Hx.out, if_pos hbig, if_neg h9])⟩
          case measure => simp [intOf]; omega
      · have hsm : (x.toNat : Int) < 128 := by omega
        by_cases h0 : x.toNat = 0
        · have h0' : ((x.toNat : Int) == 0) = true := beq_iff_eq.2 (by omega)
          by_cases hk0 : 0 < k
          · go_wp2_with fail
            go_ret3
            exact ⟨by rw [← H.out, H2.out, ruv, Hx.out, if_neg hbig, if_pos (.inl ⟨h0, hk0⟩)]; rfl, rfl⟩
          · obtain rfl : k = 0 := by omega
            simp only [Nat.add_zero] at hck
            go_wp2_with fail
            go_ret3
            have hf : ¬((x.toNat = 0 ∧ 0 < 0) ∨ (0 = 9 ∧ 1 < x.toNat)) := by omega
            refine ⟨?_, rfl⟩
            rw [← H.out, H2.out, ruv, Hx.out, if_neg hbig, if_neg hf]
            refine ret3 ?_ rfl rfl
            have := ruv_or m 0 0 (by omega) hm.out (by omega) (by omega)
            simpa [h0, IntKind.wrap_u64] using this
        · have h0' : ((x.toNat : Int) == 0) = false := beq_eq_false_iff_ne.2 (by omega)
          by_cases h9 : k = 9
          · subst h9
            by_cases h1 : 1 < x.toNat
            · go_wp2_with fail
              go_ret3
              exact ⟨by rw [← H.out, H2.out, ruv, Hx.out, if_neg hbig, if_pos (.inr ⟨rfl, h1⟩)]; rfl, rfl⟩
            · go_wp2_with fail
              go_ret3
              have hf : ¬((x.toNat = 0 ∧ 0 < 9) ∨ (9 = 9 ∧ 1 < x.toNat)) := by omega
              refine ⟨?_, rfl⟩
              rw [← H.out, H2.out, ruv, Hx.out, if_neg hbig, if_neg hf]
              refine ret3 ?_ rfl rfl
              have := ruv_or m x.toNat 9 (by omega) hm.out (by omega) (by omega)
              rw [← this, IntKind.wrap_u64]
              congr 1
              simp; omega
          · have h9' : ((k : Int) == 9) = false := beq_eq_false_iff_ne.2 (by omega)
            go_wp2_with fail
            go_ret3
            have hf : ¬((x.toNat = 0 ∧ 0 < k) ∨ (k = 9 ∧ 1 < x.toNat)) := by omega
            refine ⟨?_, rfl⟩
            rw [← H.out, H2.out, ruv, Hx.out, if_neg hbig, if_neg hf]
            refine ret3 ?_ (by simp) rfl
            have := ruv_or m x.toNat k (by omega) hm.out (by omega) (by omega)
            simpa using this
    · obtain rfl : k = l.length := by omega
      go_wp2_with fail
      go_ret3
      exact ⟨by rw [← H.out, List.drop_length, ruv]; rfl, rfl⟩
end Go.Proofs.YtgglbholbkdgfaaGreatDoor
