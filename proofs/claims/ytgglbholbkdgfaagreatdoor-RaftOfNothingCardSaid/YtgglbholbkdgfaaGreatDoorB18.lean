/- Package wal: a log in memory; name, next, size. -/
import Derived.Test.YtgglbholbkdgfaaGreatDoorB17
import Derived.Deep.RegionHeld3
import Derived.BigQuiet
namespace Go.Proofs.YtgglbholbkdgfaaGreatDoor
open Go.RowKit

abbrev dot : ByteArray := { data := #[46] }
abbrev zeroS : ByteArray := { data := #[48] }
/-- The file of the segment whose first entry has this number. -/
def segName (pre : ByteArray) (n : Nat) : ByteArray :=
  ((pre ++ dot) ++ ⟨(Lib.repeatL zeroS.data.toList (8 - (Lib.decDigits n).length)).toArray⟩) ++ ⟨(Lib.decDigits n).toArray⟩
theorem digits_small (i : Nat) (h : i < 100) : (Lib.decDigits i).length ≤ 2 ∧ 1 ≤ (Lib.decDigits i).length := by
  rw [Lib.decDigits]
  split
  · simp
  · rw [Lib.decDigits, dif_pos (by omega)]; simp

set_option maxRecDepth 100000 in
set_option maxHeartbeats 400000 in
theorem name_any (L : Nat) (pre : ByteArray) (n : Nat) (w : World) (hn : n < 100) (hpl : pre.size ≤ 64) (hp : w.cell? ⟨L, 1, none⟩ = some (.string pre)) :
    Calls Tryz.prog 100 #[.pointer (some ⟨L, 0, none⟩), .int .i64 n] w fun e w' => e = .returned (.string (segName pre n)) ∧ Ext NoB w w' := by
  have hd := digits_small n hn
  have hw : IntKind.i64.wrap (8 - ((Lib.decDigits n).length : Int)) = ((8 - (Lib.decDigits n).length : Nat) : Int) := by
    rw [IntWalk.i64_in _ (by omega)]; omega
  have hr := fun w => Lib.hid (Tryz.strings_Repeat zeroS (8 - (Lib.decDigits n).length) w (by omega) (by
    have : zeroS.size = 1 := rfl
    rw [this]; omega))
  have hrl : (⟨(Lib.repeatL zeroS.data.toList (8 - (Lib.decDigits n).length)).toArray⟩ : ByteArray).size ≤ 8 := by
    show (List.toArray _).size ≤ 8
    rw [List.size_toArray, Lib.repeatL_length]
    have : zeroS.data.toList.length = 1 := rfl
    rw [this]; omega
  have hdl : (⟨(Lib.decDigits n).toArray⟩ : ByteArray).size ≤ 2 := by
    show (List.toArray _).size ≤ 2
    rw [List.size_toArray]; omega
  have hdot : dot.size = 1 := rfl
  have k1 := fun w : World => run_string_add_sum (P := Tryz.prog) (w := w) pre dot (by omega)
  have k2 := fun w : World => run_string_add_sum (P := Tryz.prog) (w := w) (pre ++ dot) ⟨(Lib.repeatL zeroS.data.toList (8 - (Lib.decDigits n).length)).toArray⟩ (by rw [ByteArray.size_append]; omega)
  have k3 := fun w : World => run_string_add_sum (P := Tryz.prog) (w := w) ((pre ++ dot) ++ ⟨(Lib.repeatL zeroS.data.toList (8 - (Lib.decDigits n).length)).toArray⟩) ⟨(Lib.decDigits n).toArray⟩ (by rw [ByteArray.size_append, ByteArray.size_append]; omega)
  clear hrl hdl hdot hd hpl
  go_enter Tryz.func100, Tryz.ntmps100
  go_wp2_with fail
  refine (Tryz.strconv_Itoa_small n hn w).mono ?_; rintro e w1 ⟨rfl, hw1⟩; rw [hw1]
  go_wp2_with fail
  go_region_held3 (fun w' => w'.cell? ⟨L, 1, none⟩ = some (.string pre) ∧ Ext NoB w w') (refine And.intro ?_ ?_ <;> first | assumption | exact (Ext.refl _ _).drew | go_keep)
    (first | (go_at_call 128; refine (hr _).out.mono ?_; rintro e w2 ⟨rfl, x2⟩; have y2 : Ext NoB w w2 := ((Ext.refl NoB w).drew).trans (Ext.of_below x2); have z2 := y2.cell hp (fun h => h)))
  go_wp2_with fail
  go_ret
  exact ⟨rfl, y2⟩
end Go.Proofs.YtgglbholbkdgfaaGreatDoor
