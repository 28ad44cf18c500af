/- Package disk: Append where there is no room; Append as the world sees it. -/
import Derived.Test.YtgglbholbkdgfaaGreatDoorB9
namespace Go.Proofs.YtgglbholbkdgfaaGreatDoor
open Go.RowKit

set_option maxRecDepth 100000 in
set_option maxHeartbeats 1000000 in
theorem AppendFull_found (d : Nat) (F : Nat → Prop) (room : Nat) (mo : Option Nat) (rs : List RFile) (s : ByteArray) (p : Value) (l : List UInt8) (w : World) (hd : DiskAt w d F room mo rs) (hp : RdB w p l) (hoff : Off F p)
    (hn : isNm s = true) (r : RFile) (hs : rsGet rs s = some r) (hfit : room < l.length + usedL (rs.map RFile.pf)) (hlB : l.length < 1000000000000) :
    Calls Tryz.prog 110 #[.pointer (some ⟨d, 0, none⟩), .string s, p] w fun e w' => e = .returned (.int .i64 6) ∧ Ext NoB w w' := by
  obtain ⟨m, rfl, hmF, hmap⟩ : ∃ m, mo = some m ∧ F m ∧ MapIs w m (rs.map RFile.kv) := by
    rcases hd.map with ⟨_, rfl⟩ | h
    · cases hs
    · exact h
  obtain ⟨us, hus⟩ : ∃ u, usedL (rs.map RFile.pf) = u := ⟨_, rfl⟩
  have hblk := hd.blk
  rw [hus] at hfit hblk
  have c0 : w.cell? ⟨d, 0, none⟩ = some (.int .i64 room) := by rw [cell_of_blk hblk]; rfl
  have c1 : w.cell? ⟨d, 1, none⟩ = some (.int .i64 us) := by rw [cell_of_blk hblk]; rfl
  have c2 : w.cell? ⟨d, 2, none⟩ = some (.map (some m)) := by rw [cell_of_blk hblk]; rfl
  have f1 : w.frozen? ⟨d, 1, none⟩ = false := frozen_of_blk hblk 1
  have hdl := lt_of_blk hblk
  have hl := ((hd.look s).2 r hs _ (Ext.refl NoB w)).1
  have hown := hd.rows.own r (rsGet_mem hs).1
  obtain ⟨a, c, hv, hnv, hcm⟩ := RdB.shape (l := r.f.data) hown.rd
  obtain ⟨a', c', rfl, hnp, hcp⟩ := RdB.shape hp
  rw [hv] at hl
  have hr30 := hd.room30
  have hfits := hd.fits
  rw [hus] at hfits
  have hw1 : IntKind.i64.wrap ((room : Int) - (us : Int)) = (room : Int) - (us : Int) := IntWalk.i64_in _ (by omega)
  have hus2 := hd.fits
  rw [hus] at hus2
  have hgt : (room : Int) - us < l.length := by omega
  have HD := Lib.hid hd
  have HS := Lib.hid hs
  have Hus := Lib.hid hus
  have Hmap := Lib.hid hmap
  have Hblk := Lib.hid hblk
  have Hown := Lib.hid hown
  have Hv := Lib.hid hv
  clear hd hs hus hmap hblk hown hv
  go_enter Tryz.func110, Tryz.ntmps110
  go_wp2_with (go_at_call 131; refine (isName_any _ _).mono ?_; rintro e w' ⟨rfl, rfl⟩; rw [hn])
  go_quiet (fail)
  go_wp2_with fail
  go_ret
  exact ⟨rfl, ((Ext.refl _ w).alloc _).drewN _⟩

set_option maxRecDepth 100000 in
set_option maxHeartbeats 1000000 in
theorem AppendFull_new (d : Nat) (F : Nat → Prop) (room m : Nat) (rs : List RFile) (s : ByteArray) (p : Value) (l : List UInt8) (w : World) (hd : DiskAt w d F room (some m) rs) (hp : RdB w p l) (hoff : Off F p)
    (hn : isNm s = true) (hs : rsGet rs s = none) (hfit : room < l.length + usedL (rs.map RFile.pf)) (hlB : l.length < 1000000000000) (hcnt : rs.length < 256) :
    Calls Tryz.prog 110 #[.pointer (some ⟨d, 0, none⟩), .string s, p] w fun e w' => e = .returned (.int .i64 6) ∧ Ext NoB w w' := by
  obtain ⟨hmF, hmap⟩ : F m ∧ MapIs w m (rs.map RFile.kv) := by
    rcases hd.map with ⟨h, _⟩ | ⟨m', h, h'⟩
    · cases h
    · cases h; exact h'
  obtain ⟨us, hus⟩ : ∃ u, usedL (rs.map RFile.pf) = u := ⟨_, rfl⟩
  have hblk := hd.blk
  rw [hus] at hfit hblk
  have c0 : w.cell? ⟨d, 0, none⟩ = some (.int .i64 room) := by rw [cell_of_blk hblk]; rfl
  have c1 : w.cell? ⟨d, 1, none⟩ = some (.int .i64 us) := by rw [cell_of_blk hblk]; rfl
  have c2 : w.cell? ⟨d, 2, none⟩ = some (.map (some m)) := by rw [cell_of_blk hblk]; rfl
  have f1 : w.frozen? ⟨d, 1, none⟩ = false := frozen_of_blk hblk 1
  have hdl := lt_of_blk hblk
  have hl := ((hd.look s).1 hs _ (Ext.refl NoB w)).1
  obtain ⟨a', c', rfl, hnp, hcp⟩ := RdB.shape hp
  have hr30 := hd.room30
  have hfits := hd.fits
  rw [hus] at hfits
  have hw1 : IntKind.i64.wrap ((room : Int) - (us : Int)) = (room : Int) - (us : Int) := IntWalk.i64_in _ (by omega)
  have hlen : ∀ nq ty, (Builtin.len_ #[85] ty #[.map (some m)]).run Tryz.prog ((w.alloc (.cells #[.slice none 0 0, .int .i64 0] 109)).drewN nq) = .ok (.int .i64 rs.length) ((w.alloc (.cells #[.slice none 0 0, .int .i64 0] 109)).drewN nq) := fun nq ty => by
    have := run_len_kv (hmap.ext (((Ext.refl NoB w).alloc (.cells #[.slice none 0 0, .int .i64 0] 109)).drewN nq) (fun h => h)) ty
    simpa using this
  have hlt256 : (rs.length : Int) < 256 := by omega
  have hgt : (room : Int) - us < l.length := by omega
  have HD := Lib.hid hd
  have HS := Lib.hid hs
  have Hus := Lib.hid hus
  have Hmap := Lib.hid hmap
  have Hblk := Lib.hid hblk
  clear hd hs hus hmap hblk
  go_enter Tryz.func110, Tryz.ntmps110
  go_wp2_with (go_at_call 131; refine (isName_any _ _).mono ?_; rintro e w' ⟨rfl, rfl⟩; rw [hn])
  go_quiet (fail)
  go_wp2_with fail
  go_ret
  exact ⟨rfl, ((Ext.refl _ w).alloc _).drewN _⟩

set_option maxRecDepth 100000 in
set_option maxHeartbeats 1000000 in
theorem AppendFull_first (d : Nat) (F : Nat → Prop) (room : Nat) (s : ByteArray) (p : Value) (l : List UInt8) (w : World) (hd : DiskAt w d F room none []) (hp : RdB w p l) (hoff : Off F p)
    (hn : isNm s = true) (hfit : room < l.length) (hlB : l.length < 1000000000000) :
    Calls Tryz.prog 110 #[.pointer (some ⟨d, 0, none⟩), .string s, p] w fun e w' => e = .returned (.int .i64 6) ∧ Ext NoB w w' := by
  have hblk := hd.blk
  have c0 : w.cell? ⟨d, 0, none⟩ = some (.int .i64 room) := by rw [cell_of_blk hblk]; rfl
  have c1 : w.cell? ⟨d, 1, none⟩ = some (.int .i64 (0 : Nat)) := by rw [cell_of_blk hblk]; rfl
  have c2 : w.cell? ⟨d, 2, none⟩ = some (.map none) := by rw [cell_of_blk hblk]; rfl
  have f1 : w.frozen? ⟨d, 1, none⟩ = false := frozen_of_blk hblk 1
  have hdl := lt_of_blk hblk
  have hl := ((hd.look s).1 rfl _ (Ext.refl NoB w)).1
  obtain ⟨a', c', rfl, hnp, hcp⟩ := RdB.shape hp
  have hr30 := hd.room30
  have HD := Lib.hid hd
  have Hblk := Lib.hid hblk
  clear hd hblk
  go_enter Tryz.func110, Tryz.ntmps110
  go_wp2_with (go_at_call 131; refine (isName_any _ _).mono ?_; rintro e w' ⟨rfl, rfl⟩; rw [hn])
  go_quiet (fail)
  go_wp2_with fail
  go_ret
  exact ⟨rfl, ((Ext.refl _ w).alloc _).drewN _⟩

/-- A file behind more bytes. -/
def fApp (f : Option PFile) (l : List UInt8) : PFile := match f with | some f => ⟨f.data ++ l, f.lasts⟩ | none => ⟨l, 0⟩
theorem Append_ok (d : Nat) (F : Nat → Prop) (D : PDisk) (s : ByteArray) (p : Value) (l : List UInt8) (w : World) (hd : DiskIs w d F D) (hp : RdB w p l) (hoff : Off F p)
    (hn : isNm s = true) (hfit : l.length + usedL D.files ≤ D.room) (hcnt : D.files.length < 256) :
    Calls Tryz.prog 110 #[.pointer (some ⟨d, 0, none⟩), .string s, p] w fun e w' => e = .returned (.int .i64 0) ∧ Ext F w w' ∧
      DiskIs w' d (Gr F w w') ⟨D.room, fsPut D.files s (fApp (fsGet D.files s) l)⟩ := by
  obtain ⟨mo, rs, hd, e⟩ := hd
  rw [e] at hfit hcnt
  cases hr : rsGet rs s with
  | some r =>
    refine (Append_found d F D.room mo rs s p l w hd hp hoff hn r hr hfit).mono ?_
    rintro e' w' ⟨h1, h2, v, mo', h3⟩
    exact ⟨h1, h2, mo', _, h3, by rw [rsPut_pf, e, rsGet_pf, hr]; rfl⟩
  | none =>
    rcases hd.map with ⟨rfl, rfl⟩ | ⟨m, rfl, _⟩
    · refine (Append_first d F D.room s p l w hd hp hoff hn (by simp [usedL] at hfit; exact hfit)).mono ?_
      rintro e' w' ⟨h1, h2, v, mo', h3⟩
      exact ⟨h1, h2, mo', _, h3, by rw [rsPut_pf, e, rsGet_pf, hr]; rfl⟩
    · refine (Append_new d F D.room m rs s p l w hd hp hoff hn hr hfit (by simpa using hcnt)).mono ?_
      rintro e' w' ⟨h1, h2, v, mo', h3⟩
      exact ⟨h1, h2, mo', _, h3, by rw [rsPut_pf, e, rsGet_pf, hr]; rfl⟩
theorem Append_full (d : Nat) (F : Nat → Prop) (D : PDisk) (s : ByteArray) (p : Value) (l : List UInt8) (w : World) (hd : DiskIs w d F D) (hp : RdB w p l) (hoff : Off F p)
    (hn : isNm s = true) (hfit : D.room < l.length + usedL D.files) (hcnt : D.files.length < 256) (hlB : l.length < 1000000000000) :
    Calls Tryz.prog 110 #[.pointer (some ⟨d, 0, none⟩), .string s, p] w fun e w' => e = .returned (.int .i64 6) ∧ Ext NoB w w' := by
  obtain ⟨mo, rs, hd, e⟩ := hd
  rw [e] at hfit hcnt
  cases hr : rsGet rs s with
  | some r => exact AppendFull_found d F D.room mo rs s p l w hd hp hoff hn r hr hfit hlB
  | none =>
    rcases hd.map with ⟨rfl, rfl⟩ | ⟨m, rfl, _⟩
    · exact AppendFull_first d F D.room s p l w hd hp hoff hn (by simp [usedL] at hfit; exact hfit) hlB
    · exact AppendFull_new d F D.room m rs s p l w hd hp hoff hn hr hfit hlB (by simpa using hcnt)
end Go.Proofs.YtgglbholbkdgfaaGreatDoor
