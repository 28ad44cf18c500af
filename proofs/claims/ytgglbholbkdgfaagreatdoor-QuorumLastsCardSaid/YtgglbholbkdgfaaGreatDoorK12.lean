/- Joined texts: B62 B63 B64 B65. Each has its own head. -/
import Derived.Test.YtgglbholbkdgfaaGreatDoorK11
set_option linter.unusedVariables false
set_option linter.unusedSimpArgs false
namespace Go.Proofs.YtgglbholbkdgfaaGreatDoor
open Go.RowKit
set_option maxRecDepth 100000 in
set_option maxHeartbeats 1000000 in
theorem number_term (L : Nat) (w : World) (h : w.cell? ⟨L, 1, none⟩ = some (.string logPre)) :
  Calls Tryz.prog 72 #[.pointer (some ⟨L, 0, none⟩), .string termName] w fun e w' => e = .returned (.tuple #[.int .i64 0, .bool false]) ∧ Ext NoB w w' := by
 have hcut := fun (p : ByteArray) (w : World) => Tryz.strings_CutPrefix termName p w
 have Hcut := Lib.hid hcut
 clear hcut
 go_enter Tryz.func72, Tryz.ntmps72
 go_wp2_with fail
 have hfalse : Lib.hasPrefix [116, 101, 114, 109] (logPre ++ { data := #[46] }).data.toList = false := by
  rw [ByteArray.data_append]
  decide
 have hc := Hcut.out (logPre ++ { data := #[46] }) w
 rw [hfalse] at hc
 have Hc := Lib.hid hc
 clear hc hfalse Hcut
 refine Hc.out.mono ?_; rintro e w1 ⟨rfl, rfl⟩
 go_wp2_with fail
 go_ret2
 exact ⟨rfl, Ext.refl _ _⟩
end Go.Proofs.YtgglbholbkdgfaaGreatDoor
namespace Go.Proofs.YtgglbholbkdgfaaGreatDoor
open Go.RowKit
def savedNode (id n : Nat) (draw : Int) (t : Nat) (v : Int) : PNode := { newNode id n draw with term := t, vote := v }
end Go.Proofs.YtgglbholbkdgfaaGreatDoor
namespace Go.Proofs.YtgglbholbkdgfaaGreatDoor
open Go.RowKit
theorem canon_whole (tf : Option (Nat × Int)) (ps : List PSeg) : ∀ p ∈ canon tf ps, p.2.lasts = p.2.data.length := by
 intro p hp
 unfold canon at hp
 rcases List.mem_append.1 hp with h | h
 ·cases tf with
  | none => simp [termFs] at h
  | some q =>
   simp only [termFs, List.mem_singleton] at h
   subst h
   rfl
 ·obtain ⟨s, _, e⟩ := List.mem_map.1 h
  subst e
  rfl
end Go.Proofs.YtgglbholbkdgfaaGreatDoor
namespace Go.Proofs.YtgglbholbkdgfaaGreatDoor
open Go.RowKit
end Go.Proofs.YtgglbholbkdgfaaGreatDoor
