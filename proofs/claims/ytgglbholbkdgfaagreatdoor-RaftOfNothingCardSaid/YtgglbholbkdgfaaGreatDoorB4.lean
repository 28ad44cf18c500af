/- Package bits: half, halves, Sum (the CRC-32). -/
import Derived.Test.YtgglbholbkdgfaaGreatDoorB3
import Derived.Handy
namespace Go.Proofs.YtgglbholbkdgfaaGreatDoor
open Go.RowKit

def half1 (n : Nat) : Nat := n / 2 ^^^ (3988292384 &&& ((4294967296 - n % 2) % 4294967296))
def tab (i : Nat) : Nat := half1 (half1 (half1 (half1 i)))
def crcStep (v : Nat) (c : UInt8) : Nat :=
  let a := v ^^^ c.toNat
  let b := a / 16 ^^^ tab (a % 16)
  b / 16 ^^^ tab (b % 16)
/-- bits.Sum -/
def crc (l : List UInt8) : Nat := 4294967295 ^^^ l.foldl crcStep 4294967295

theorem xor_lt32 {a b : Nat} (ha : a < 4294967296) (hb : b < 4294967296) : a ^^^ b < 4294967296 := Nat.xor_lt_two_pow (n := 32) ha hb
theorem and_lt32 {a b : Nat} (ha : a < 4294967296) : a &&& b < 4294967296 := Nat.lt_of_le_of_lt Nat.and_le_left ha
theorem half1_lt (n : Nat) (h : n < 4294967296) : half1 n < 4294967296 := xor_lt32 (by omega) (and_lt32 (by decide))
theorem tab_lt (n : Nat) (h : n < 4294967296) : tab n < 4294967296 := half1_lt _ (half1_lt _ (half1_lt _ (half1_lt _ h)))
theorem crcStep_lt (v : Nat) (c : UInt8) (h : v < 4294967296) : crcStep v c < 4294967296 := by
  have hc := c.toNat_lt
  have h1 : v ^^^ c.toNat < 4294967296 := xor_lt32 h (by omega)
  have h2 : (v ^^^ c.toNat) / 16 ^^^ tab ((v ^^^ c.toNat) % 16) < 4294967296 := xor_lt32 (by omega) (tab_lt _ (by omega))
  exact xor_lt32 (by omega) (tab_lt _ (by omega))
theorem crcFold_lt (l : List UInt8) : ∀ v, v < 4294967296 → l.foldl crcStep v < 4294967296 := by
  induction l with
  | nil => intro v h; exact h
  | cons c l ih => intro v h; exact ih _ (crcStep_lt v c h)
theorem crc_lt (l : List UInt8) : crc l < 4294967296 := xor_lt32 (by decide) (crcFold_lt l _ (by decide))

theorem half1_walk (n : Nat) (h : n < 4294967296) :
    bits .xor .u32 ((n : Int) / 2) (bits .and .u32 3988292384 (-(bits .and .u32 (n : Int) 1) % 4294967296)) = ((half1 n : Nat) : Int) := by
  have h1 : bits .and .u32 (n : Int) 1 = ((n % 2 : Nat) : Int) := by
    have := u32_and_nat n 1 h (by decide)
    rw [nat_mask1] at this; exact this
  have h2 : (-((n % 2 : Nat) : Int)) % 4294967296 = (((4294967296 - n % 2) % 4294967296 : Nat) : Int) := by omega
  have h3 := u32_and_nat 3988292384 ((4294967296 - n % 2) % 4294967296) (by decide) (Nat.mod_lt _ (by decide))
  have h4 := u32_xor_nat (n / 2) (3988292384 &&& ((4294967296 - n % 2) % 4294967296)) (by omega) (and_lt32 (by decide))
  rw [h1, h2]
  unfold half1
  rw [← h4]
  congr 1

set_option maxRecDepth 100000 in
set_option maxHeartbeats 400000 in
theorem half_any (n : Nat) (h : n < 4294967296) (w : World) :
    Calls Tryz.prog 136 #[.int .u32 n] w fun e w' => e = .returned (.int .u32 (tab n)) ∧ w = w' := by
  go_enter Tryz.func136, Tryz.ntmps136
  go_wp2_with fail
  go_loop [0, 3] (fun v i => ∃ (k m : Nat), i = .int .i64 k ∧ v = .int .u32 m ∧ k ≤ 4 ∧ m < 4294967296 ∧ Hid (Nat.rec m (fun _ x => half1 x) (4 - k) = tab n)) (fun _ i => 4 - (intOf i).toNat)
  case atStart => exact ⟨0, n, rfl, rfl, by omega, h, rfl⟩
  case round =>
    obtain ⟨k, m, rfl, rfl, hk, hm, H⟩ := hrel
    by_cases hlt : k < 4
    · have hw := Lib.hid (half1_walk m hm)
      go_wp2_with fail
      go_round
      case rel => exact ⟨k + 1, half1 m, by go_num, by rw [hw.out], by omega, half1_lt m hm, Lib.hid (by rw [← H.out]; rcases k with _ | _ | _ | _ | k; rfl; rfl; rfl; rfl; omega)⟩
      case measure => simp [intOf]; omega
    · obtain rfl : k = 4 := by omega
      go_wp2_with fail
      go_ret
      exact ⟨by have h2 : m = tab n := H.out; rw [← h2]; rfl, rfl⟩

def tabV (k : Nat) : Array Value := ((List.range 16).map fun i => Value.int .u32 ((if i < k then tab i else 0 : Nat) : Int)).toArray
theorem tabV_set (k : Nat) (hk : k < 16) : (tabV k).setIfInBounds k (.int .u32 (tab k : Nat)) = tabV (k + 1) := by
  unfold tabV
  apply Array.ext
  · simp
  · intro i h1 h2
    rw [Array.getElem_setIfInBounds (by simpa using h2)]
    by_cases h : k = i
    · subst h; simp
    · rw [if_neg h]
      simp only [List.getElem_toArray, List.getElem_map, List.getElem_range]
      congr 2
      by_cases h' : i < k
      · rw [if_pos h', if_pos (by omega)]
      · rw [if_neg h', if_neg (by omega)]

set_option maxRecDepth 100000 in
set_option maxHeartbeats 400000 in
theorem halves_any (w : World) :
    Calls Tryz.prog 125 #[] w fun e w' => e = .returned (.agg (tabV 16)) ∧ Ext NoB w w' := by
  go_enter Tryz.func125, Tryz.ntmps125
  go_wp2_with fail
  go_loopw [2] (fun i wr => ∃ (k : Nat), i = .int .i64 k ∧ k ≤ 16 ∧ wr.heap[w.heap.size]? = some (.cells (tabV k) 187 (0, 0)) ∧ Ext NoB w wr) (fun i _ => 16 - (intOf i).toNat)
  case atStart => exact ⟨0, rfl, by omega, blk_new w _, (Ext.refl _ w).alloc _⟩
  case round =>
    obtain ⟨k, rfl, hk, hb, hx⟩ := hrel
    by_cases hlt : k < 16
    · have hc : wr.cell? ⟨w.heap.size, k, none⟩ = some (.int .u32 0) := by rw [cell_of_blk hb]; simp [tabV, hlt]
      have hf : wr.frozen? ⟨w.heap.size, k, none⟩ = false := frozen_of_blk hb k
      have HB := Lib.hid hb
      clear hb
      go_wp2_with (go_at_call 136; refine (half_any _ (by omega) _).mono ?_; rintro e w' ⟨rfl, rfl⟩)
      go_roundw
      case rel => exact ⟨k + 1, by go_num, by omega, by rw [blk_setCell HB.out, tabV_set k hlt], hx.setCell (.inr (Nat.le_refl _)) _⟩
      case measure => simp [intOf]; omega
    · obtain rfl : k = 16 := by omega
      have HB := Lib.hid hb
      clear hb
      go_wp2_with (first | (refine wpList_load_row rfl 187 (.tmp 0) rfl _ rfl _ _ _ _ HB.out Tryz.underlying187 rfl (by kernel_rfl) ?_) | (refine wpList_store_row rfl 187 (.tmp 0) (.tmp 11) rfl _ (tabV 16) rfl rfl _ _ HB.out (by kernel_rfl) (by kernel_rfl) (by kernel_rfl) ?_))
      (try simp only [Exit.inBlock, Exit.then])
      refine bodyPost_ret (results_cell_row rfl _ _ w.heap.size _ (tabV 16) _ _ rfl (setRow_heap _ _ _ _ _ _ HB.out) Tryz.underlying187 rfl (by kernel_rfl)) rfl ⟨rfl, hx.setRow (.inr (Nat.le_refl _)) _⟩

theorem xor_walk (a b : Nat) (ha : a < 4294967296) (hb : b < 4294967296) : bits .xor .u32 (a : Int) (b : Int) = ((a ^^^ b : Nat) : Int) := u32_xor_nat a b ha hb
theorem and15_walk (a : Nat) (ha : a < 4294967296) : bits .and .u32 (a : Int) 15 = ((a % 16 : Nat) : Int) := by
  have := u32_and_nat a 15 ha (by decide)
  rw [nat_mask4] at this; exact this
theorem tabV_get (i : Nat) (h : i < 16) : (tabV 16)[i]? = some (.int .u32 (tab i : Nat)) := by simp [tabV, h]

set_option maxRecDepth 100000 in
set_option maxHeartbeats 400000 in
theorem Sum_any (s : Value) (l : List UInt8) (w : World) (hs : RdB w s l) (hlen : l.length < 1000000000000) :
    Calls Tryz.prog 98 #[s] w fun e w' => e = .returned (.int .u32 (crc l)) ∧ Ext NoB w w' := by
  obtain ⟨a, n, c, rfl, hl, hn, hc, hsp, hr⟩ := hs
  have hl' : n = l.length := by simpa using hl.symm
  subst hl'
  clear hl
  have HR := Lib.hid hr
  clear hr hsp
  go_enter Tryz.func98, Tryz.ntmps98
  go_wp2_with (first | (go_at_call 125; refine (halves_any _).mono ?_; rintro e w1 ⟨rfl, hx1⟩) | (refine wpList_store_row rfl 187 (.tmp 3) (.tmp 7) rfl _ (tabV 16) rfl rfl _ _ (blk_new w1 _) (by kernel_rfl) (by kernel_rfl) (by kernel_rfl) ?_))
  generalize hW : World.setRow _ _ _ = W
  have HT : Hid (W.heap[w1.heap.size]? = some (.cells (tabV 16) 187 (0, 0))) := by rw [← hW]; exact setRow_heap _ _ _ _ _ _ (blk_new w1 _)
  have hx : Ext NoB w W := by rw [← hW]; exact (hx1.alloc _).setRow (.inr hx1.size) _
  clear hW
  obtain ⟨g, hg⟩ : ∃ g, w1.heap.size = g := ⟨_, rfl⟩
  rw [hg] at HT ⊢
  clear hg
  go_loop [4, 10] (fun v i => ∃ (k m : Nat), i = .int .i64 k ∧ v = .int .u32 m ∧ k ≤ l.length ∧ m < 4294967296 ∧ Hid ((l.drop k).foldl crcStep m = l.foldl crcStep 4294967295)) (fun _ i => l.length - (intOf i).toNat)
  case atStart => exact ⟨0, 4294967295, rfl, rfl, by omega, by omega, rfl⟩
  case round =>
    obtain ⟨k, v, rfl, rfl, hk, hv, H⟩ := hrel
    by_cases hlt : k < l.length
    · obtain ⟨b, off, rfl, hcell⟩ := HR.out (by intro h; simp [bytesV] at h; simp [h] at hlt)
      have hck : W.cell? ⟨b, off + k, none⟩ = some (.int .u8 l[k].toNat) := hx.cell (hcell k _ (by simp [bytesV, hlt])) (fun h => h)
      have H2 := Lib.hid (drop_cons l k hlt)
      obtain ⟨x, hx'⟩ : ∃ x, l[k] = x := ⟨_, rfl⟩
      rw [hx'] at hck
      have Hx := Lib.hid hx'
      clear hx' hcell
      have hx256 := x.toNat_lt
      obtain ⟨a0, ha0⟩ : ∃ a, v ^^^ x.toNat = a := ⟨_, rfl⟩
      have hal : a0 < 4294967296 := by rw [← ha0]; exact xor_lt32 hv (by omega)
      have e1 := xor_walk v x.toNat hv (by omega)
      rw [ha0] at e1
      obtain ⟨i0, hi0⟩ : ∃ i, a0 % 16 = i := ⟨_, rfl⟩
      have hil : i0 < 16 := by omega
      have e2 := and15_walk a0 hal
      rw [hi0] at e2
      obtain ⟨t0, ht0⟩ : ∃ t, tab i0 = t := ⟨_, rfl⟩
      have c2 : W.cell? ⟨g, i0, none⟩ = some (.int .u32 t0) := by rw [cell_of_blk HT.out, tabV_get i0 hil, ht0]
      have htl : t0 < 4294967296 := by rw [← ht0]; exact tab_lt _ (by omega)
      obtain ⟨b0, hb0⟩ : ∃ b, a0 / 16 ^^^ t0 = b := ⟨_, rfl⟩
      have hbl : b0 < 4294967296 := by rw [← hb0]; exact xor_lt32 (by omega) htl
      have e3 : bits .xor .u32 ((a0 : Int) / 16) (t0 : Int) = (b0 : Int) := by rw [← hb0]; exact xor_walk (a0 / 16) t0 (by omega) htl
      obtain ⟨i1, hi1⟩ : ∃ i, b0 % 16 = i := ⟨_, rfl⟩
      have hil1 : i1 < 16 := by omega
      have e4 := and15_walk b0 hbl
      rw [hi1] at e4
      obtain ⟨t1, ht1⟩ : ∃ t, tab i1 = t := ⟨_, rfl⟩
      have c4 : W.cell? ⟨g, i1, none⟩ = some (.int .u32 t1) := by rw [cell_of_blk HT.out, tabV_get i1 hil1, ht1]
      have htl1 : t1 < 4294967296 := by rw [← ht1]; exact tab_lt _ (by omega)
      obtain ⟨d0, hd0⟩ : ∃ b, b0 / 16 ^^^ t1 = b := ⟨_, rfl⟩
      have hdl : d0 < 4294967296 := by rw [← hd0]; exact xor_lt32 (by omega) htl1
      have e5 : bits .xor .u32 ((b0 : Int) / 16) (t1 : Int) = (d0 : Int) := by rw [← hd0]; exact xor_walk (b0 / 16) t1 (by omega) htl1
      have HD : Hid (crcStep v x = d0) := by
        show crcStep v x = d0
        unfold crcStep
        simp only [ha0, hi0, ht0, hb0, hi1, ht1, hd0]
      clear ha0 hi0 ht0 hb0 hi1 ht1 hd0
      go_wp2_with fail
      go_round
      case rel => exact ⟨k + 1, d0, by go_num, rfl, by omega, hdl, Lib.hid (by rw [← H.out, H2.out, List.foldl_cons, Hx.out, HD.out])⟩
      case measure => simp [intOf]; omega
    · obtain rfl : k = l.length := by omega
      go_wp2_with fail
      go_ret
      have hm : IntKind.u32.max = ((4294967295 : Nat) : Int) := by decide
      have hv' : v = l.foldl crcStep 4294967295 := by have := H.out; rwa [List.drop_length] at this
      refine ⟨?_, hx⟩
      show Ending.returned (.int .u32 (bits .xor .u32 IntKind.u32.max (v : Int))) = _
      rw [hm, xor_walk _ v (by decide) hv, hv']
      rfl
end Go.Proofs.YtgglbholbkdgfaaGreatDoor
