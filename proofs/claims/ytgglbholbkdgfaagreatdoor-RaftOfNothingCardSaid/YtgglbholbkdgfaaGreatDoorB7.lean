/- Package disk, the reading side: what a disk is in memory; New, isName, of, Read. -/
import Derived.Test.YtgglbholbkdgfaaGreatDoorB5
import Derived.Test.YtgglbholbkdgfaaGreatDoorB6
namespace Go.Proofs.YtgglbholbkdgfaaGreatDoor
open Go.RowKit

/-- A file: its bytes, and how many of them last. -/
structure PFile where
  data : List UInt8
  lasts : Nat
/-- A disk: its room and its files, in the order in which they were made. -/
structure PDisk where
  room : Nat
  files : List (ByteArray × PFile)
/-- A file in memory. -/
structure RFile where
  name : ByteArray
  v : Value
  f : PFile
def RFile.kv (r : RFile) : ByteArray × Value := (r.name, .agg #[r.v, .int .i64 r.f.lasts])
def RFile.pf (r : RFile) : ByteArray × PFile := (r.name, r.f)
def usedL (fs : List (ByteArray × PFile)) : Nat := (fs.map (fun p => p.2.data.length)).sum
def fsGet (fs : List (ByteArray × PFile)) (s : ByteArray) : Option PFile := (fs.find? (fun p => decide (p.1 = s))).map (·.2)
def rsGet (rs : List RFile) (s : ByteArray) : Option RFile := rs.find? (fun r => decide (r.name = s))

/-- The files' rows: each its own, all of F, no two in one block. -/
structure Rows2 (w : World) (F : Nat → Prop) (rs : List RFile) : Prop where
  own : ∀ r ∈ rs, Own w 5 1 r.v (bytesV r.f.data)
  foot : ∀ r ∈ rs, ∀ g, r.v.ownBlock = some g → F g
  apart : rs.Pairwise (fun a b => ∀ g, a.v.ownBlock = some g → b.v.ownBlock ≠ some g)
/-- Where the map is. -/
def MapOf (w : World) (F : Nat → Prop) (mo : Option Nat) (rs : List RFile) : Prop :=
  (mo = none ∧ rs = []) ∨ ∃ m, mo = some m ∧ F m ∧ MapIs w m (rs.map RFile.kv)
/-- A disk in memory at block d, with the files rs; F: its blocks. -/
structure DiskAt (w : World) (d : Nat) (F : Nat → Prop) (room : Nat) (mo : Option Nat) (rs : List RFile) : Prop where
  blk : w.heap[d]? = some (.cells #[.int .i64 room, .int .i64 (usedL (rs.map RFile.pf)), .map mo] 87 (0, 0))
  self : F d
  map : MapOf w F mo rs
  rows : Rows2 w F rs
  lt : ∀ b, F b → b < w.heap.size
  room30 : room ≤ 1073741824
  fits : usedL (rs.map RFile.pf) ≤ room
  names : ∀ r ∈ rs, 1 ≤ r.name.size ∧ r.name.size ≤ 64
  count : rs.length ≤ 256
/-- The same, as the world sees it. -/
def DiskIs (w : World) (d : Nat) (F : Nat → Prop) (D : PDisk) : Prop := ∃ mo rs, DiskAt w d F D.room mo rs ∧ D.files = rs.map RFile.pf

theorem Rows2.ext {w w' : World} {F G : Nat → Prop} {rs : List RFile} (h : Rows2 w F rs) (x : Ext G w w') (hd : ∀ b, F b → ¬ G b) : Rows2 w' F rs :=
  ⟨fun r hr => (h.own r hr).ext x (fun g hg => hd g (h.foot r hr g hg)), h.foot, h.apart⟩
theorem MapOf.ext {w w' : World} {F G : Nat → Prop} {mo : Option Nat} {rs : List RFile} (h : MapOf w F mo rs) (x : Ext G w w') (hd : ∀ b, F b → ¬ G b) : MapOf w' F mo rs := by
  rcases h with h | ⟨m, h1, h2, h3⟩
  · exact .inl h
  · exact .inr ⟨m, h1, h2, h3.ext x (hd m h2)⟩
theorem DiskAt.ext {w w' : World} {d : Nat} {F G : Nat → Prop} {room : Nat} {mo : Option Nat} {rs : List RFile} (h : DiskAt w d F room mo rs) (x : Ext G w w') (hd : ∀ b, F b → ¬ G b) : DiskAt w' d F room mo rs :=
  ⟨x.blk h.blk (hd d h.self), h.self, h.map.ext x hd, h.rows.ext x hd, fun b hb => Nat.lt_of_lt_of_le (h.lt b hb) x.size, h.room30, h.fits, h.names, h.count⟩
theorem DiskAt.no {w w' : World} {d : Nat} {F : Nat → Prop} {room : Nat} {mo : Option Nat} {rs : List RFile} (h : DiskAt w d F room mo rs) (x : Ext NoB w w') : DiskAt w' d F room mo rs := h.ext x (fun _ _ h => h)
theorem DiskIs.ext {w w' : World} {d : Nat} {F G : Nat → Prop} {D : PDisk} (h : DiskIs w d F D) (x : Ext G w w') (hd : ∀ b, F b → ¬ G b) : DiskIs w' d F D := by
  obtain ⟨mo, rs, h, e⟩ := h
  exact ⟨mo, rs, h.ext x hd, e⟩
theorem DiskIs.no {w w' : World} {d : Nat} {F : Nat → Prop} {D : PDisk} (h : DiskIs w d F D) (x : Ext NoB w w') : DiskIs w' d F D := h.ext x (fun _ _ h => h)
theorem DiskIs.lt {w : World} {d : Nat} {F : Nat → Prop} {D : PDisk} (h : DiskIs w d F D) : ∀ b, F b → b < w.heap.size := by obtain ⟨_, _, h, _⟩ := h; exact h.lt

theorem rsGet_kv (rs : List RFile) (s : ByteArray) : kvGet (rs.map RFile.kv) s = (rsGet rs s).map (fun r => .agg #[r.v, .int .i64 r.f.lasts]) := by
  unfold kvGet rsGet
  induction rs with
  | nil => rfl
  | cons r rs ih =>
    simp only [List.map_cons, List.find?_cons]
    by_cases h : r.name = s
    · simp [RFile.kv, h]
    · simpa [RFile.kv, h] using ih
theorem rsGet_pf (rs : List RFile) (s : ByteArray) : fsGet (rs.map RFile.pf) s = (rsGet rs s).map (·.f) := by
  unfold fsGet rsGet
  induction rs with
  | nil => rfl
  | cons r rs ih =>
    simp only [List.map_cons, List.find?_cons]
    by_cases h : r.name = s
    · simp [RFile.pf, h]
    · simpa [RFile.pf, h] using ih
theorem rsGet_mem {rs : List RFile} {s : ByteArray} {r : RFile} (h : rsGet rs s = some r) : r ∈ rs ∧ r.name = s := by
  have := List.find?_some h
  exact ⟨List.mem_of_find?_eq_some h, by simpa using this⟩

theorem used_mem {rs : List RFile} {r : RFile} (h : r ∈ rs) : r.f.data.length ≤ usedL (rs.map RFile.pf) := by
  unfold usedL
  induction rs with
  | nil => cases h
  | cons x rs ih =>
    simp only [List.map_cons, List.sum_cons]
    cases h with
    | head => simp [RFile.pf]
    | tail _ h => have := ih h; omega

theorem zeroFile (w : World) : (zeroValue 109).run Tryz.prog w = .ok (.agg #[.slice none 0 0, .int .i64 0]) w := by kernel_rfl
theorem unMap : Tryz.prog.underlying 85 = some (.map 9 109) := Tryz.underlying85
theorem unString : Tryz.prog.underlying 9 = some .string := Tryz.underlying9
/-- A look at a disk's files. -/
theorem DiskAt.look {w : World} {d : Nat} {F : Nat → Prop} {room : Nat} {mo : Option Nat} {rs : List RFile} (h : DiskAt w d F room mo rs) (s : ByteArray) :
    (rsGet rs s = none → ∀ w', Ext NoB w w' → (Instr.lookup 85 (.map mo) (.string s) true).run Tryz.prog w' = .ok (.tuple #[.agg #[.slice none 0 0, .int .i64 0], .bool false]) w' ∧ (Instr.lookup 85 (.map mo) (.string s) false).run Tryz.prog w' = .ok (.agg #[.slice none 0 0, .int .i64 0]) w') ∧
    (∀ r, rsGet rs s = some r → ∀ w', Ext NoB w w' → (Instr.lookup 85 (.map mo) (.string s) true).run Tryz.prog w' = .ok (.tuple #[.agg #[r.v, .int .i64 r.f.lasts], .bool true]) w' ∧ (Instr.lookup 85 (.map mo) (.string s) false).run Tryz.prog w' = .ok (.agg #[r.v, .int .i64 r.f.lasts]) w') := by
  rcases h.map with ⟨rfl, rfl⟩ | ⟨m, rfl, _, hm⟩
  · refine ⟨fun _ w' _ => run_look_nil unMap unString s _ (zeroFile w'), fun r hr => by cases hr⟩
  · refine ⟨fun hn w' x => ?_, fun r hr w' x => ?_⟩
    · have := run_look (P := Tryz.prog) unMap unString (hm.ext x (fun h => h)) s _ (zeroFile w')
      rw [rsGet_kv, hn] at this
      exact this
    · have := run_look (P := Tryz.prog) unMap unString (hm.ext x (fun h => h)) s _ (zeroFile w')
      rw [rsGet_kv, hr] at this
      exact this

theorem retBool {a b : Bool} (h : a = b) : Ending.returned (.bool a) = Ending.returned (.bool b) := by rw [h]
def isNm (s : ByteArray) : Bool := decide (1 ≤ s.size ∧ s.size ≤ 64)
set_option maxRecDepth 100000 in
set_option maxHeartbeats 400000 in
theorem isName_any (s : ByteArray) (w : World) : Calls Tryz.prog 131 #[.string s] w fun e w' => e = .returned (.bool (isNm s)) ∧ w = w' := by
  by_cases h1 : 1 ≤ s.size
  · go_enter Tryz.func131, Tryz.ntmps131
    go_wp2_with fail
    go_ret
    refine ⟨retBool ?_, rfl⟩
    unfold isNm
    simp [h1]; omega
  · go_enter Tryz.func131, Tryz.ntmps131
    go_wp2_with fail
    go_ret
    refine ⟨retBool ?_, rfl⟩
    unfold isNm
    simp [h1]

set_option maxRecDepth 100000 in
set_option maxHeartbeats 400000 in
theorem of_none (d : Nat) (F : Nat → Prop) (room : Nat) (mo : Option Nat) (rs : List RFile) (s : ByteArray) (w : World) (hd : DiskAt w d F room mo rs) (hs : rsGet rs s = none) :
    Calls Tryz.prog 96 #[.pointer (some ⟨d, 0, none⟩), .string s] w fun e w' => e = .returned (.tuple #[.agg #[.slice none 0 0, .int .i64 0], .bool false]) ∧ Ext NoB w w' := by
  have hc : w.cell? ⟨d, 2, none⟩ = some (.map mo) := by rw [cell_of_blk hd.blk]; rfl
  have hdl := lt_of_blk hd.blk
  have hl := ((hd.look s).1 hs _ ((Ext.refl NoB w).alloc (.cells #[.slice none 0 0, .int .i64 0] 109))).1
  clear hd hs
  go_enter Tryz.func96, Tryz.ntmps96
  go_wp2_with fail
  go_returns
  exact ⟨rfl, ((Ext.refl _ w).alloc _).alloc _⟩

set_option maxRecDepth 100000 in
set_option maxHeartbeats 400000 in
theorem of_some (d : Nat) (F : Nat → Prop) (room : Nat) (mo : Option Nat) (rs : List RFile) (s : ByteArray) (w : World) (hd : DiskAt w d F room mo rs) (r : RFile) (hs : rsGet rs s = some r) :
    Calls Tryz.prog 96 #[.pointer (some ⟨d, 0, none⟩), .string s] w fun e w' => e = .returned (.tuple #[.agg #[r.v, .int .i64 r.f.lasts], .bool true]) ∧ Ext NoB w w' := by
  have hc : w.cell? ⟨d, 2, none⟩ = some (.map mo) := by rw [cell_of_blk hd.blk]; rfl
  have hdl := lt_of_blk hd.blk
  have hl := ((hd.look s).2 r hs _ ((Ext.refl NoB w).alloc (.cells #[.slice none 0 0, .int .i64 0] 109))).1
  obtain ⟨a, c, hv, hn, hcm⟩ := RdB.shape (l := r.f.data) (hd.rows.own r (rsGet_mem hs).1).rd
  rw [hv] at hl ⊢
  clear hd hs hv
  go_enter Tryz.func96, Tryz.ntmps96
  go_wp2_with fail
  go_returns
  exact ⟨rfl, ((Ext.refl _ w).alloc _).alloc _⟩

set_option maxRecDepth 100000 in
set_option maxHeartbeats 400000 in
theorem Read_none (d : Nat) (F : Nat → Prop) (D : PDisk) (s : ByteArray) (w : World) (hd : DiskIs w d F D) (hs : fsGet D.files s = none) :
    Calls Tryz.prog 69 #[.pointer (some ⟨d, 0, none⟩), .string s] w fun e w' => e = .returned (.tuple #[.slice none 0 0, .int .i64 7]) ∧ Ext NoB w w' := by
  obtain ⟨mo, rs, hd, e⟩ := hd
  rw [e, rsGet_pf] at hs
  have hof := Lib.hid (of_none d F D.room mo rs s w hd (by cases h : rsGet rs s with | none => rfl | some r => rw [h] at hs; cases hs))
  clear hd hs e
  go_enter Tryz.func69, Tryz.ntmps69
  go_wp2_with fail
  refine hof.out.mono ?_; rintro e w1 ⟨rfl, x1⟩
  go_wp2_with fail
  go_ret2
  exact ⟨rfl, x1.alloc _⟩

set_option maxRecDepth 100000 in
set_option maxHeartbeats 400000 in
theorem Read_some (d : Nat) (F : Nat → Prop) (D : PDisk) (s : ByteArray) (w : World) (hd : DiskIs w d F D) (f : PFile) (hs : fsGet D.files s = some f) :
    Calls Tryz.prog 69 #[.pointer (some ⟨d, 0, none⟩), .string s] w fun e w' => ∃ v, e = .returned (.tuple #[v, .int .i64 0]) ∧ Own w' 5 1 v (bytesV f.data) ∧ Fresh w v ∧ Ext NoB w w' := by
  obtain ⟨mo, rs, hd, e⟩ := hd
  rw [e, rsGet_pf] at hs
  cases hr : rsGet rs s with
  | none => rw [hr] at hs; cases hs
  | some r =>
  rw [hr] at hs
  obtain rfl : r.f = f := by simpa using hs
  have hof := Lib.hid (of_some d F D.room mo rs s w hd r hr)
  have hown := hd.rows.own r (rsGet_mem hr).1
  have hfit : r.f.data.length ≤ 1073741824 := by
    have h1 := used_mem (rsGet_mem hr).1
    have h2 := hd.fits
    have h3 := hd.room30
    omega
  obtain ⟨a, c, hv, hn, hcm⟩ := RdB.shape (l := r.f.data) hown.rd
  rw [hv] at hof hown
  clear hd hs e hv hr
  go_enter Tryz.func69, Tryz.ntmps69
  go_wp2_with fail
  refine hof.out.mono ?_; rintro e w1 ⟨rfl, x1⟩
  go_wp2_with fail
  refine (bytesClone_any _ r.f.data _ ((hown.rd.no x1).no ((Ext.refl _ _).alloc _)) (by omega)).mono ?_; rintro e w2 ⟨v2, rfl, o2, f2, x2⟩
  go_wp2_with fail
  go_ret2
  exact ⟨v2, rfl, o2, f2.mono (by have := x1.size; simp; omega), (x1.alloc _).trans x2⟩
end Go.Proofs.YtgglbholbkdgfaaGreatDoor
