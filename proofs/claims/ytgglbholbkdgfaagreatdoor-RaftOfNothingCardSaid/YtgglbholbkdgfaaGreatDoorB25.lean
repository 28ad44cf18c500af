/- Package wal: Open of a disk without files. -/
import Derived.Test.YtgglbholbkdgfaaGreatDoorB24
namespace Go.Proofs.YtgglbholbkdgfaaGreatDoor
open Go.RowKit

set_option maxRecDepth 100000 in
set_option maxHeartbeats 4000000 in
theorem LogOpen_empty (d : Nat) (F : Nat → Prop) (D : PDisk) (pre : ByteArray) (w : World) (hd : DiskIs w d F D) (hf : D.files = []) (hp : 1 ≤ pre.size ∧ pre.size ≤ 55) :
    Calls Tryz.prog 38 #[.pointer (some ⟨d, 0, none⟩), .string pre] w fun e w' => ∃ L, e = .returned (.tuple #[.pointer (some ⟨L, 0, none⟩), .int .i64 0]) ∧ w.heap.size ≤ L ∧
      LogAt w' L d (fun b => b = L) pre (.slice none 0 0) [] 1 ∧ Ext NoB w w' := by
  have hlist := Lib.hid (fun (w' : World) (x : Ext NoB w w') => List_any d F D w' (hd.no x))
  have hzs := fun (w : World) => (show (zeroValue 134).run Tryz.prog w = .ok (.agg #[.pointer none, .string { data := #[] }, .slice none 0 0, .int .i64 0]) w by kernel_rfl)
  have hq1 : ¬ ((pre.size : Int) < 1) := by omega
  have hq2 : ¬ ((55 : Int) < (pre.size : Int)) := by omega
  have Hp := Lib.hid hp
  clear hd hp
  go_enter Tryz.func38, Tryz.ntmps38
  go_wp2_with fail
  refine (hlist.out _ ((Ext.refl _ w).alloc _)).mono ?_; rintro e w1 ⟨v, rfl, o1, f1, x1⟩
  have hnm : names D.files = [] := by rw [hf]; simp [names]
  rw [hnm] at o1
  obtain ⟨a, c, rfl, _, _⟩ := Rd.shape o1.rd
  have b1 := x1.blk (blk_new w (.cells #[.pointer (some ⟨d, 0, none⟩), .string pre, .slice none 0 0, .int .i64 1] 134)) (fun h => h)
  have Hb1 := Lib.hid b1
  have Hx1 := Lib.hid x1
  clear b1 x1 o1 f1
  go_wp2_with fail
  refine wp_loop_rounds 1 ?_
  rw [rounds_succ]
  go_wp2_with fail
  go_ret2
  refine ⟨w.heap.size, rfl, Nat.le_refl _, ⟨Hb1.out, rfl, Own.nil _ _ _, fun g hg => by (cases hg), by simp, by simp, rfl, fun b hb => ?_, by omega, by simp, Hp.out.2⟩, ((Ext.refl _ w).alloc _).trans Hx1.out⟩
  subst hb
  exact lt_of_blk Hb1.out
end Go.Proofs.YtgglbholbkdgfaaGreatDoor
