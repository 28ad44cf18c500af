/- Package bits: put, Put32, get, Get32; bytes.Clone, slices.Clone. -/
import Derived.Test.YtgglbholbkdgfaaGreatDoorB2
namespace Go.Proofs.YtgglbholbkdgfaaGreatDoor
open Go.RowKit

/-- The low k bytes of a number, the highest first (bits.put). -/
def be : Nat → Nat → List UInt8
  | 0, _ => []
  | k + 1, v => UInt8.ofNat (v / 2 ^ (8 * k) % 256) :: be k v
/-- The number that bytes are, the highest first (bits.get). -/
def beV (l : List UInt8) : Nat := l.foldl (fun a c => a * 256 + c.toNat) 0

theorem eqNilBytes (w : World) (a : Option Addr) (n c n' c' : Nat) : (binOp .eql 35 (.slice a n c) (.slice none n' c')).run Tryz.prog w = .ok (.bool a.isNone) w :=
  Lib.run_eql_slice_nil w _ _ a n c n' c' unBytes
theorem eqNilInts (w : World) (a : Option Addr) (n c n' c' : Nat) : (binOp .eql 34 (.slice a n c) (.slice none n' c')).run Tryz.prog w = .ok (.bool a.isNone) w :=
  Lib.run_eql_slice_nil w _ _ a n c n' c' unInts

theorem Own.empty (w : World) (e : Nat) : Own (w.alloc (.cells #[] e)) e 1 (.slice (some ⟨w.heap.size, 0, none⟩) 0 0) [] :=
  .inr ⟨w.heap.size, 0, 0, #[], rfl, blk_new w _, Nat.le_refl _, by simp, by unfold maxLen; omega, rfl, rfl⟩

set_option maxRecDepth 100000 in
set_option maxHeartbeats 400000 in
theorem bytesClone_any (s : Value) (l : List UInt8) (w : World) (hs : RdB w s l) (hlen : l.length ≤ 70368744177664) :
    Calls Tryz.prog 76 #[s] w fun e w' => ∃ v, e = .returned v ∧ Own w' 5 1 v (bytesV l) ∧ Fresh w v ∧ Ext NoB w w' := by
  have hs0 := hs
  obtain ⟨a, n, c, rfl, hl, hn, hc, hsp, hr⟩ := hs
  have hq := eqNilBytes
  rcases a with _ | p
  · have hl0 : bytesV l = [] := by
      rcases hb : bytesV l with _ | ⟨x, xs⟩
      · rfl
      · obtain ⟨_, _, h, _⟩ := hr (by rw [hb]; simp); cases h
    have Hl0 := Lib.hid hl0
    clear hl0 hs0 hr hsp hl
    go_enter Tryz.func76, Tryz.ntmps76
    go_wp2_with fail
    go_ret
    exact ⟨_, rfl, by rw [Hl0.out]; exact .inl ⟨rfl, rfl⟩, Fresh.nil _ _ _, Ext.refl _ _⟩
  · have hsrc := Rd.src (P := Tryz.prog) unBytes (hs0.no ((Ext.refl _ w).alloc (.cells #[] 5))) (bytesV_one l) (by decide)
    have Hs := Lib.hid hsrc
    clear hsrc hs0 hr hsp hl
    go_enter Tryz.func76, Tryz.ntmps76
    go_wp2_with (at_builtin; refine wpList_app _ rfl (.tmp 5) (.tmp 6) 35 35 rfl 5 1 1 unBytes elByte (Own.empty w _) Hs.out rfl rfl (by simp; omega) (by decide) ?_; intro v' w' hown' hx' hv')
    go_ret
    exact ⟨v', rfl, by simpa using hown', (Fresh.new w 0 none 0 0).app (by simp) hv', (Fresh.new w 0 none 0 0).ext ((Ext.refl _ w).alloc _) hx'⟩

set_option maxRecDepth 100000 in
set_option maxHeartbeats 400000 in
theorem put4_any (n : Nat) (w : World) :
    Calls Tryz.prog 145 #[.int .u64 n, .int .u64 4] w fun e w' => ∃ v, e = .returned v ∧ Own w' 5 1 v (bytesV (be 4 n)) ∧ Fresh w v ∧ Ext NoB w w' := by
  have hmk : ∀ w, (Instr.makeSlice 35 (.int .i64 0) (.int .u64 4)).run Tryz.prog w = .ok (.slice (some ⟨w.heap.size, 0, none⟩) 0 4) (w.alloc (.cells #[.int .u8 0, .int .u8 0, .int .u8 0, .int .u8 0] 5)) := fun _ => by kernel_rfl
  go_enter Tryz.func145, Tryz.ntmps145
  go_wp2_with fail
  go_loopw [5, 6] (fun b sh wr => ∃ (j : Nat) (bs : List UInt8), sh = .int .u64 (8 * j : Nat) ∧ j ≤ 4 ∧ Own wr 5 1 b (bytesV bs) ∧ Fresh w b ∧ Ext NoB w wr ∧ Hid (bs.length + j = 4 ∧ bs ++ be j n = be 4 n)) (fun _ sh _ => (intOf sh).toNat)
  case atStart => exact ⟨4, [], rfl, by omega, .inr ⟨w.heap.size, 0, 4, _, rfl, blk_new w _, by omega, by decide, by unfold maxLen; omega, rfl, rfl⟩, Fresh.new w 0 none 0 4, (Ext.refl _ w).alloc _, ⟨rfl, rfl⟩⟩
  case round =>
    obtain ⟨j, bs, rfl, hj, hown, hfr, hx, H⟩ := hrel
    by_cases h0 : 0 < j
    · obtain ⟨j, rfl⟩ : ∃ i, j = i + 1 := ⟨j - 1, by omega⟩
      have hbl : bs.length ≤ 4 := by have := H.out.1; omega
      go_wp2_with (at_builtin; refine wpList_app1 _ rfl (.tmp 15) (.tmp 20) 35 rfl 5 1 unBytes elByte hown rfl rfl rfl (by simp; omega) (by decide) ?_; intro v' w' hown' hx' hv')
      have e1 : 8 * (j + 1) - 8 = 8 * j := by omega
      rw [e1] at hown'
      go_roundw
      case rel => exact ⟨j, bs ++ [UInt8.ofNat (n / 2 ^ (8 * j) % 256)], by congr 1; simp; omega, by omega, by rw [bytesV_append]; simpa [bytesV] using hown', hfr.app hx.size hv', hfr.ext hx hx', ⟨by have := H.out.1; simp; omega, by rw [← H.out.2, be]; simp⟩⟩
      case measure => simp [intOf]; omega
    · obtain rfl : j = 0 := by omega
      go_wp2_with fail
      go_ret
      exact ⟨_, rfl, by have h2 := H.out.2; rw [be, List.append_nil] at h2; rw [← h2]; exact hown, hfr, hx⟩

set_option maxRecDepth 100000 in
set_option maxHeartbeats 400000 in
theorem Put32_any (n : Nat) (hn : n < 4294967296) (w : World) :
    Calls Tryz.prog 130 #[.int .u32 n] w fun e w' => ∃ v, e = .returned v ∧ Own w' 5 1 v (bytesV (be 4 n)) ∧ Fresh w v ∧ Ext NoB w w' := by
  go_enter Tryz.func130, Tryz.ntmps130
  go_wp2_with (go_at_call 145; refine (put4_any _ _).mono ?_; rintro e w' ⟨v, rfl, h1, h2, h3⟩)
  go_ret
  exact ⟨v, rfl, h1, h2, h3⟩

theorem or256 (m c : Nat) (hm : m < 16777216) (hc : c < 256) : bits .or .u64 ((m : Int) * 256) (c : Int) = ((m * 256 + c : Nat) : Int) := by
  have e : (m : Int) * 256 = ((m * 256 : Nat) : Int) := by omega
  rw [e, u64_or_nat _ _ (by omega) (by omega), nat_join 8 (m * 256) c (by omega) (by omega)]

theorem beV_snoc (l : List UInt8) (c : UInt8) : beV (l ++ [c]) = beV l * 256 + c.toNat := by simp [beV]
theorem beV_lt (l : List UInt8) : ∀ k, l.length ≤ k → beV l < 256 ^ k := by
  intro k hk
  have : ∀ (l : List UInt8) (a : Nat), l.foldl (fun a c => a * 256 + c.toNat) a < (a + 1) * 256 ^ l.length := by
    intro l
    induction l with
    | nil => intro a; simp
    | cons x xs ih =>
      intro a
      have := ih (a * 256 + x.toNat)
      have hx := x.toNat_lt
      simp only [List.foldl_cons, List.length_cons, Nat.pow_succ]
      refine Nat.lt_of_lt_of_le this ?_
      rw [← Nat.mul_assoc, Nat.mul_right_comm]
      exact Nat.mul_le_mul_right _ (by omega)
  have h := this l 0
  simp only [Nat.zero_add, Nat.one_mul] at h
  exact Nat.lt_of_lt_of_le h (Nat.pow_le_pow_right (by decide) hk)

set_option maxRecDepth 100000 in
set_option maxHeartbeats 400000 in
theorem get4_any (s : Value) (l : List UInt8) (w : World) (hs : RdB w s l) (hlen : l.length < 1000000000000) :
    Calls Tryz.prog 124 #[s, .int .i64 4] w fun e w' => e = .returned (if 4 ≤ l.length then .tuple #[.int .u64 (beV (l.take 4)), .int .i64 0] else .tuple #[.int .u64 0, .int .i64 2]) ∧ w = w' := by
  obtain ⟨a, n, c, rfl, hl, hn, hc, hsp, hr⟩ := hs
  have hl' : n = l.length := by simpa using hl.symm
  subst hl'
  clear hl
  by_cases h4 : 4 ≤ l.length
  · obtain ⟨b, off, rfl, hcell⟩ := hr (by intro h; simp [bytesV] at h; simp [h] at h4)
    have H4 : Hid ((if 4 ≤ l.length then Value.tuple #[.int .u64 (beV (l.take 4)), .int .i64 0] else .tuple #[.int .u64 0, .int .i64 2]) = .tuple #[.int .u64 (beV (l.take 4)), .int .i64 0]) := if_pos h4
    rw [H4.out]
    have HC := Lib.hid hcell
    clear hcell hr hsp
    go_enter Tryz.func124, Tryz.ntmps124
    go_wp2_with fail
    go_loop [6, 17] (fun v i => ∃ (k : Nat), i = .int .i64 k ∧ v = .int .u64 (beV (l.take k)) ∧ k ≤ 4) (fun _ i => 4 - (intOf i).toNat)
    case atStart => exact ⟨0, rfl, rfl, by omega⟩
    case round =>
      obtain ⟨k, rfl, rfl, hk⟩ := hrel
      by_cases hlt : k < 4
      · have hck : w.cell? ⟨b, off + k, none⟩ = some (.int .u8 (l[k]'(by omega)).toNat) := HC.out k _ (by simp [bytesV, show k < l.length by omega])
        have hb := beV_lt (l.take k) 3 (by simp; omega)
        have hsn : l.take (k + 1) = l.take k ++ [l[k]'(by omega)] := by rw [List.take_succ_eq_append_getElem (by omega)]
        obtain ⟨m, hm⟩ : ∃ m, beV (l.take k) = m := ⟨_, rfl⟩
        obtain ⟨x, hx⟩ : ∃ x, l[k]'(by omega) = x := ⟨_, rfl⟩
        rw [hx] at hck hsn
        rw [hm] at hb ⊢
        have Hm := Lib.hid hm
        have Hsn := Lib.hid hsn
        have hx256 := x.toNat_lt
        have hor := Lib.hid (or256 m x.toNat (by simpa using hb) hx256)
        clear hm hsn hx
        go_wp2_with fail
        go_round
        case rel => exact ⟨k + 1, by go_num, by rw [Hsn.out, beV_snoc, Hm.out, hor.out], by omega⟩
        case measure => simp [intOf]; omega
      · obtain rfl : k = 4 := by omega
        go_wp2_with fail
        go_ret2
        exact ⟨rfl, rfl⟩
  · rw [if_neg h4]
    go_enter Tryz.func124, Tryz.ntmps124
    go_wp2_with fail
    go_ret2
    exact ⟨rfl, rfl⟩

theorem be_length (k n : Nat) : (be k n).length = k := by induction k with
  | zero => rfl
  | succ k ih => simp [be, ih]
theorem beV_be4 (n : Nat) (hn : n < 4294967296) : beV (be 4 n) = n := by
  simp only [beV, be, List.foldl_cons, List.foldl_nil, UInt8.toNat_ofNat']
  omega

set_option maxRecDepth 100000 in
set_option maxHeartbeats 400000 in
theorem Get32_any (s : Value) (l : List UInt8) (w : World) (hs : RdB w s l) (hlen : l.length < 1000000000000) :
    Calls Tryz.prog 97 #[s] w fun e w' => e = .returned (if 4 ≤ l.length then .tuple #[.int .u32 (beV (l.take 4)), .int .i64 0] else .tuple #[.int .u32 0, .int .i64 2]) ∧ w = w' := by
  have hc := Lib.hid (get4_any s l w hs hlen)
  by_cases h4 : 4 ≤ l.length
  · have hb := beV_lt (l.take 4) 4 (by simp; omega)
    rw [if_pos h4] at hc ⊢
    obtain ⟨m, hm⟩ : ∃ m, beV (l.take 4) = m := ⟨_, rfl⟩
    rw [hm] at hb hc ⊢
    have hb' : m < 4294967296 := by simpa using hb
    clear hm hb
    go_enter Tryz.func97, Tryz.ntmps97
    go_wp2_with (go_at_call 124; refine hc.out.mono ?_; rintro e w' ⟨rfl, rfl⟩)
    go_ret2
    exact ⟨rfl, rfl⟩
  · rw [if_neg h4] at hc ⊢
    go_enter Tryz.func97, Tryz.ntmps97
    go_wp2_with (go_at_call 124; refine hc.out.mono ?_; rintro e w' ⟨rfl, rfl⟩)
    go_ret2
    exact ⟨rfl, rfl⟩

set_option maxRecDepth 100000 in
set_option maxHeartbeats 400000 in
theorem cloneInts_any (s : Value) (l : List Int) (w : World) (hs : Rd w 1 s (intsV l)) (hlen : l.length ≤ 8796093022208) :
    Calls Tryz.prog 135 #[s] w fun e w' => ∃ v, e = .returned v ∧ Own w' 3 1 v (intsV l) ∧ Fresh w v ∧ Ext NoB w w' := by
  have hs0 := hs
  obtain ⟨a, n, c, rfl, hl, hn, hc, hsp, hr⟩ := hs
  have hq := eqNilInts
  rcases a with _ | p
  · have hl0 : intsV l = [] := by
      rcases hb : intsV l with _ | ⟨x, xs⟩
      · rfl
      · obtain ⟨_, _, h, _⟩ := hr (by rw [hb]; simp); cases h
    have Hl0 := Lib.hid hl0
    clear hl0 hs0 hr hsp hl
    go_enter Tryz.func135, Tryz.ntmps135
    go_wp2_with fail
    go_ret
    exact ⟨_, rfl, by rw [Hl0.out]; exact .inl ⟨rfl, rfl⟩, Fresh.nil _ _ _, Ext.refl _ _⟩
  · have hsrc := Rd.src (P := Tryz.prog) unInts (hs0.no ((Ext.refl _ w).alloc (.cells #[] 3))) (intsV_one l) (by decide)
    have Hs := Lib.hid hsrc
    clear hsrc hs0 hr hsp hl
    go_enter Tryz.func135, Tryz.ntmps135
    go_wp2_with (at_builtin; refine wpList_app _ rfl (.tmp 5) (.tmp 6) 34 34 rfl 3 1 8 unInts elInt (Own.empty w _) Hs.out rfl rfl (by simp; omega) (by decide) ?_; intro v' w' hown' hx' hv')
    go_ret
    exact ⟨v', rfl, by simpa using hown', (Fresh.new w 0 none 0 0).app (by simp) hv', (Fresh.new w 0 none 0 0).ext ((Ext.refl _ w).alloc _) hx'⟩
theorem cloneBytes_any (s : Value) (l : List UInt8) (w : World) (hs : RdB w s l) (hlen : l.length ≤ 70368744177664) :
    Calls Tryz.prog 67 #[s] w fun e w' => ∃ v, e = .returned v ∧ Own w' 5 1 v (bytesV l) ∧ Fresh w v ∧ Ext NoB w w' := by
  have hs0 := hs
  obtain ⟨a, n, c, rfl, hl, hn, hc, hsp, hr⟩ := hs
  have hq := eqNilBytes
  rcases a with _ | p
  · have hl0 : bytesV l = [] := by
      rcases hb : bytesV l with _ | ⟨x, xs⟩
      · rfl
      · obtain ⟨_, _, h, _⟩ := hr (by rw [hb]; simp); cases h
    have Hl0 := Lib.hid hl0
    clear hl0 hs0 hr hsp hl
    go_enter Tryz.func67, Tryz.ntmps67
    go_wp2_with fail
    go_ret
    exact ⟨_, rfl, by rw [Hl0.out]; exact .inl ⟨rfl, rfl⟩, Fresh.nil _ _ _, Ext.refl _ _⟩
  · have hsrc := Rd.src (P := Tryz.prog) unBytes (hs0.no ((Ext.refl _ w).alloc (.cells #[] 5))) (bytesV_one l) (by decide)
    have Hs := Lib.hid hsrc
    clear hsrc hs0 hr hsp hl
    go_enter Tryz.func67, Tryz.ntmps67
    go_wp2_with (at_builtin; refine wpList_app _ rfl (.tmp 5) (.tmp 6) 35 35 rfl 5 1 1 unBytes elByte (Own.empty w _) Hs.out rfl rfl (by simp; omega) (by decide) ?_; intro v' w' hown' hx' hv')
    go_ret
    exact ⟨v', rfl, by simpa using hown', (Fresh.new w 0 none 0 0).app (by simp) hv', (Fresh.new w 0 none 0 0).ext ((Ext.refl _ w).alloc _) hx'⟩
end Go.Proofs.YtgglbholbkdgfaaGreatDoor
