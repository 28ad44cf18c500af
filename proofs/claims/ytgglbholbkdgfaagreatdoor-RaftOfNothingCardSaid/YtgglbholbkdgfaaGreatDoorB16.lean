/- Packages keep and disk: Load; List of a disk without files. -/
import Derived.Test.YtgglbholbkdgfaaGreatDoorB15
import Derived.Test.YtgglbholbkdgfaaGreatDoorBI
namespace Go.Proofs.YtgglbholbkdgfaaGreatDoor
open Go.RowKit

theorem dec_enc (l : List UInt8) (h : l.length ≤ 1048576) : dec (enc l) = (l, l.length + 8, 0) := by
  have h1 : (enc l).take 4 = be 4 l.length := by
    unfold enc
    rw [List.append_assoc, List.take_append_of_le_length (by simp [be_length]), List.take_of_length_le (by simp [be_length])]
  have h2 : (enc l).drop 4 = be 4 (crc (be 4 l.length ++ l)) ++ l := by
    unfold enc
    rw [List.append_assoc, List.drop_append_of_le_length (by simp [be_length]), List.drop_of_length_le (by simp [be_length]), List.nil_append]
  have h3 : ((enc l).drop 4).take 4 = be 4 (crc (be 4 l.length ++ l)) := by
    rw [h2, List.take_append_of_le_length (by simp [be_length]), List.take_of_length_le (by simp [be_length])]
  have h4 : (enc l).drop 8 = l := by
    have : (enc l).drop 8 = ((enc l).drop 4).drop 4 := by rw [List.drop_drop]
    rw [this, h2, List.drop_append_of_le_length (by simp [be_length]), List.drop_of_length_le (by simp [be_length]), List.nil_append]
  unfold dec
  rw [h1, h3, h4, beV_be4 _ (by omega), beV_be4 _ (crc_lt _), enc_length, if_neg (by omega), if_neg (by omega), if_neg (by omega), List.take_length]
  rw [if_pos rfl, Nat.add_comm 8]

set_option maxRecDepth 100000 in
set_option maxHeartbeats 400000 in
theorem Load_none (d : Nat) (F : Nat → Prop) (D : PDisk) (s : ByteArray) (w : World) (hd : DiskIs w d F D) (hs : fsGet D.files s = none) :
    Calls Tryz.prog 36 #[.pointer (some ⟨d, 0, none⟩), .string s] w fun e w' => e = .returned (.tuple #[.slice none 0 0, .int .i64 7]) ∧ Ext NoB w w' := by
  have hr := Lib.hid (Read_none d F D s w hd hs)
  clear hd hs
  go_enter Tryz.func36, Tryz.ntmps36
  go_wp2_with fail
  refine hr.out.mono ?_; rintro e w1 ⟨rfl, x1⟩
  go_wp2_with fail
  go_ret2
  exact ⟨rfl, x1⟩

set_option maxRecDepth 100000 in
set_option maxHeartbeats 400000 in
theorem Load_ok (d : Nat) (F : Nat → Prop) (D : PDisk) (s : ByteArray) (w : World) (hd : DiskIs w d F D) (l : List UInt8) (lasts : Nat) (hl : l.length ≤ 1048576) (hs : fsGet D.files s = some ⟨enc l, lasts⟩) :
    Calls Tryz.prog 36 #[.pointer (some ⟨d, 0, none⟩), .string s] w fun e w' => ∃ v, e = .returned (.tuple #[v, .int .i64 0]) ∧ Own w' 5 1 v (bytesV l) ∧ Fresh w v ∧ Ext NoB w w' := by
  have hr := Lib.hid (Read_some d F D s w hd _ hs)
  clear hd hs
  have hlen := enc_length l
  have hne : ((l.length + 8 : Nat) : Int) ≠ ((enc l).length : Int) ↔ False := by rw [hlen]; simp
  go_enter Tryz.func36, Tryz.ntmps36
  go_wp2_with fail
  refine hr.out.mono ?_; rintro e w1 ⟨v1, rfl, o1, f1, x1⟩
  obtain ⟨a, c, rfl, hn, hcm⟩ := RdB.shape (l := enc l) o1.rd
  go_wp2_with fail
  refine (Decode_any _ (enc l) w1 o1.rd (by omega)).mono ?_
  rintro e w2 ⟨v2, rfl, o2, f2, x2⟩
  rw [dec_enc l hl] at o2 ⊢
  simp only at o2 ⊢
  rw [← hlen]
  have hO := Lib.hid o2
  clear o2 hlen hne
  go_wp2_with fail
  go_ret2
  exact ⟨v2, rfl, hO.out, f2.mono x1.size, x1.trans x2⟩

set_option maxRecDepth 100000 in
set_option maxHeartbeats 400000 in
theorem List_none (d : Nat) (F : Nat → Prop) (room : Nat) (w : World) (hd : DiskAt w d F room none []) :
    Calls Tryz.prog 51 #[.pointer (some ⟨d, 0, none⟩)] w fun e w' => e = .returned (.slice none 0 0) ∧ Ext NoB w w' := by
  have hc : w.cell? ⟨d, 2, none⟩ = some (.map none) := by rw [cell_of_blk hd.blk]; rfl
  have hk := Lib.hid (callsIn_wide.1 (Tryz.maps_Keys_89 none w))
  have hs := Lib.hid (callsIn_wide.1 (Tryz.slices_Sorted_keys_nil_88_89 w))
  clear hd
  go_enter Tryz.func51, Tryz.ntmps51
  go_wp2_with fail
  refine hk.out.mono ?_; rintro e w1 ⟨rfl, rfl⟩
  go_wp2_with fail
  refine hs.out.mono ?_; rintro e w2 ⟨v, ss, rfl, rfl, _, h2, h3⟩
  obtain rfl := h2.2 rfl
  go_wp2_with fail
  go_ret
  exact ⟨rfl, ((Ext.refl _ w).alloc _).trans (Ext.of_below h3)⟩
end Go.Proofs.YtgglbholbkdgfaaGreatDoor
