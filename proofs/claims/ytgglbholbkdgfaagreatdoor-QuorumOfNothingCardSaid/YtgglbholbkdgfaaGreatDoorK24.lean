/- Joined texts: B120 B121. Each has its own head. -/
import Derived.Test.YtgglbholbkdgfaaGreatDoorK23
set_option linter.unusedVariables false
set_option linter.unusedSimpArgs false
namespace Go.Proofs.YtgglbholbkdgfaaGreatDoor
open Go.RowKit
set_option maxRecDepth 100000 in
theorem has_nil (i : Int) (w : World) : Calls Tryz.prog 58 #[.pointer none, .int .i64 i] w fun e w' => e = .returned (.bool false) ∧ w' = w := by
  go_enter Tryz.func58, Tryz.ntmps58
  go_wp2_with fail
  go_ret
  exact ⟨rfl, rfl⟩
set_option maxRecDepth 100000 in
theorem propose_nil (i : Int) (pa : Option Addr) (pn pc : Nat) (w : World) : Calls Tryz.prog 28 #[.pointer none, .int .i64 i, .slice pa pn pc] w fun e w' => e = .returned (.tuple #[.int .i64 0, .int .i64 1]) ∧ w' = w := by
  have H := Lib.hid (has_nil i w)
  go_enter Tryz.func28, Tryz.ntmps28
  go_wp2_with fail
  refine H.out.mono ?_; rintro e w1 ⟨rfl, rfl⟩
  go_wp2_with fail
  go_ret2
  exact ⟨rfl, rfl⟩
set_option maxRecDepth 100000 in
theorem state_nil (i : Int) (w : World) : Calls Tryz.prog 31 #[.pointer none, .int .i64 i] w fun e w' => e = .returned (.tuple #[.int .i64 0, .int .i64 0, .bool false]) ∧ w' = w := by
  have H := Lib.hid (has_nil i w)
  go_enter Tryz.func31, Tryz.ntmps31
  go_wp2_with fail
  refine H.out.mono ?_; rintro e w1 ⟨rfl, rfl⟩
  go_wp2_with fail
  go_ret3
  exact ⟨rfl, rfl⟩
set_option maxRecDepth 100000 in
theorem settle_nil (i : Int) (w : World) : Calls Tryz.prog 29 #[.pointer none, .int .i64 i] w fun e w' => e = .returned (.tuple #[]) ∧ w' = w := by
  go_enter Tryz.func29, Tryz.ntmps29
  go_wp2_with fail
  refine bodyPost_ret (results_none rfl _ _ _) rfl ?_
  exact ⟨rfl, rfl⟩
set_option maxRecDepth 100000 in
theorem taken_nil (i : Int) (w : World) : Calls Tryz.prog 32 #[.pointer none, .int .i64 i] w fun e w' => e = .returned (.slice none 0 0) ∧ w' = w := by
  have H := Lib.hid (has_nil i w)
  go_enter Tryz.func32, Tryz.ntmps32
  go_wp2_with fail
  refine H.out.mono ?_; rintro e w1 ⟨rfl, rfl⟩
  go_wp2_with fail
  go_ret
  exact ⟨rfl, rfl⟩
set_option maxRecDepth 100000 in
theorem flight_nil (w : World) : Calls Tryz.prog 35 #[.pointer none] w fun e w' => e = .returned (.int .i64 0) ∧ w' = w := by
  go_enter Tryz.func35, Tryz.ntmps35
  go_wp2_with fail
  go_ret
  exact ⟨rfl, rfl⟩
set_option maxRecDepth 100000 in
theorem do_nil (a b c d k v : Int) (ky co : Int) (pa : Option Addr) (pn pc : Nat) (w : World) : Calls Tryz.prog 30 #[.pointer none, .agg #[.int .i64 a, .int .i64 b, .int .i64 c, .int .i64 d, .int .i64 k, .int .i64 v, .int .u64 ky, .int .u32 co, .slice pa pn pc]] w fun e w' => e = .returned (.int .i64 1) ∧ Ext NoB w w' := by
  go_enter Tryz.func30, Tryz.ntmps30
  go_wp2_with fail
  go_ret
  exact ⟨rfl, (Ext.refl NoB w).alloc _⟩
end Go.Proofs.YtgglbholbkdgfaaGreatDoor
namespace Go.Proofs.YtgglbholbkdgfaaGreatDoor
open Go.RowKit
set_option maxRecDepth 100000 in
set_option maxHeartbeats 4000000 in
theorem qnothing_walk (a b c d k v ky co : Int) (qa : Option Addr) (qn qc : Nat) (pa : Option Addr) (pn pc : Nat) (w : World) : Calls Tryz.prog 13 #[.agg #[.int .i64 a, .int .i64 b, .int .i64 c, .int .i64 d, .int .i64 k, .int .i64 v, .int .u64 ky, .int .u32 co, .slice qa qn qc], .slice pa pn pc] w fun e w' => e = .returned (.bool true) ∧ Ext NoB w w' := by
  have Hp := Lib.hid (fun (w' : World) => propose_nil b pa pn pc w')
  have Hs := Lib.hid (fun (w' : World) => state_nil b w')
  have Hse := Lib.hid (fun (w' : World) => settle_nil 3 w')
  have Hdo := Lib.hid (fun (w' : World) => do_nil a b c d k v ky co qa qn qc w')
  have Ht := Lib.hid (fun (w' : World) => taken_nil b w')
  have Hf := Lib.hid (fun (w' : World) => flight_nil w')
  have Hk := Lib.hid (fun (w' : World) => known17_any w')
  by_cases hl : (20000 : Int) < (pn : Int)
  · go_enter Tryz.func13, Tryz.ntmps13
    go_wp2_with fail
    go_ret
    exact ⟨rfl, (Ext.refl NoB w).alloc _⟩
  · go_enter Tryz.func13, Tryz.ntmps13
    go_wp2_with fail
    obtain ⟨w1, B, e1, e2, x1, b1, hs1⟩ := alloc_facts w (.cells #[.int .i64 a, .int .i64 b, .int .i64 c, .int .i64 d, .int .i64 k, .int .i64 v, .int .u64 ky, .int .u32 co, .slice qa qn qc] 68)
    rw [e1, e2]
    have c0 : w1.cell? ⟨B, 0, none⟩ = some (.int .i64 a) := by rw [cell_of_blk b1]; rfl
    have c1 : w1.cell? ⟨B, 1, none⟩ = some (.int .i64 b) := by rw [cell_of_blk b1]; rfl
    have c2 : w1.cell? ⟨B, 2, none⟩ = some (.int .i64 c) := by rw [cell_of_blk b1]; rfl
    have c3 : w1.cell? ⟨B, 3, none⟩ = some (.int .i64 d) := by rw [cell_of_blk b1]; rfl
    have c4 : w1.cell? ⟨B, 4, none⟩ = some (.int .i64 k) := by rw [cell_of_blk b1]; rfl
    have c5 : w1.cell? ⟨B, 5, none⟩ = some (.int .i64 v) := by rw [cell_of_blk b1]; rfl
    have c6 : w1.cell? ⟨B, 6, none⟩ = some (.int .u64 ky) := by rw [cell_of_blk b1]; rfl
    have c7 : w1.cell? ⟨B, 7, none⟩ = some (.int .u32 co) := by rw [cell_of_blk b1]; rfl
    have c8 : w1.cell? ⟨B, 8, none⟩ = some (.slice qa qn qc) := by rw [cell_of_blk b1]; rfl
    have Hx1 := Lib.hid x1
    clear e1 e2 x1 b1 hs1
    refine (Hp.out w1).mono ?_; rintro e w2 ⟨rfl, rfl⟩
    go_wp2_with fail
    refine (Hs.out w2).mono ?_; rintro e w3 ⟨rfl, rfl⟩
    go_wp2_with fail
    refine (Hse.out w3).mono ?_; rintro e w4 ⟨rfl, rfl⟩
    go_wp2_with fail
    refine (Hdo.out w4).mono ?_; rintro e w5 ⟨rfl, x5⟩
    have d1 := x5.cell c1 (fun h => h)
    have Hx5 := Lib.hid (Hx1.out.trans x5)
    clear x5 c0 c1 c2 c3 c4 c5 c6 c7 c8
    go_wp2_with fail
    refine (Ht.out w5).mono ?_; rintro e w6 ⟨rfl, rfl⟩
    go_wp2_with fail
    refine (Hf.out w6).mono ?_; rintro e w7 ⟨rfl, rfl⟩
    go_wp2_with fail
    refine (Hk.out w7).mono ?_; rintro e w8 ⟨rfl, x8⟩
    have Hx8 := Lib.hid (Hx5.out.trans x8)
    clear x8
    go_wp2_with fail
    go_ret
    exact ⟨rfl, Hx8.out⟩
end Go.Proofs.YtgglbholbkdgfaaGreatDoor
