/- Package disk: Rename of a file that is there. -/
import Derived.Test.YtgglbholbkdgfaaGreatDoorB13
import Derived.Laws.Strings
namespace Go.Proofs.YtgglbholbkdgfaaGreatDoor
open Go.RowKit

theorem DiskAt.wider {w : World} {d : Nat} {F F' : Nat → Prop} {room : Nat} {mo : Option Nat} {rs : List RFile} (h : DiskAt w d F room mo rs) (hF : ∀ b, F b → F' b) (hlt : ∀ b, F' b → b < w.heap.size) : DiskAt w d F' room mo rs :=
  ⟨h.blk, hF _ h.self, by rcases h.map with h | ⟨m, h1, h2, h3⟩; exact .inl h; exact .inr ⟨m, h1, hF _ h2, h3⟩, ⟨h.rows.own, fun r hr g hg => hF _ (h.rows.foot r hr g hg), h.rows.apart⟩, hlt, h.room30, h.fits, h.names, h.count⟩
theorem DiskIs.wider {w : World} {d : Nat} {F F' : Nat → Prop} {D : PDisk} (h : DiskIs w d F D) (hF : ∀ b, F b → F' b) (hlt : ∀ b, F' b → b < w.heap.size) : DiskIs w d F' D := by
  obtain ⟨mo, rs, h, e⟩ := h
  exact ⟨mo, rs, h.wider hF hlt, e⟩
theorem DiskIs.self {w : World} {d : Nat} {F : Nat → Prop} {D : PDisk} (h : DiskIs w d F D) : F d := by obtain ⟨_, _, h, _⟩ := h; exact h.self
theorem DiskIs.dlt {w : World} {d : Nat} {F : Nat → Prop} {D : PDisk} (h : DiskIs w d F D) : d < w.heap.size := h.lt d h.self

/-- What stands at a name in memory. -/
theorem look_cases (rs : List RFile) (s : ByteArray) : ∃ old oldn oldl, (rsGet rs s = none ∧ old = Value.slice none 0 0 ∧ oldn = 0 ∧ oldl = 0) ∨ ∃ r, rsGet rs s = some r ∧ old = r.v ∧ oldn = r.f.data.length ∧ oldl = r.f.lasts := by
  cases h : rsGet rs s with
  | none => exact ⟨_, _, _, .inl ⟨rfl, rfl, rfl, rfl⟩⟩
  | some r => exact ⟨_, _, _, .inr ⟨r, rfl, rfl, rfl, rfl⟩⟩

set_option maxRecDepth 100000 in
set_option maxHeartbeats 1000000 in
theorem Rename_at (d : Nat) (F : Nat → Prop) (D : PDisk) (s s' : ByteArray) (w : World) (hd : DiskIs w d F D) (f : PFile) (hs : fsGet D.files s = some f) (hne : s ≠ s') (hn : isNm s' = true) :
    Calls Tryz.prog 114 #[.pointer (some ⟨d, 0, none⟩), .string s, .string s'] w fun e w' => e = .returned (.int .i64 0) ∧ Ext F w w' ∧
      DiskIs w' d (Gr F w w') ⟨D.room, fsPut (fsDel D.files s) s' f⟩ := by
  obtain ⟨mo, rs, hd, he⟩ := hd
  rw [he, rsGet_pf] at hs
  obtain ⟨r, hr, rfl⟩ : ∃ r, rsGet rs s = some r ∧ r.f = f := by
    cases hr : rsGet rs s with
    | none => rw [hr] at hs; cases hs
    | some r => rw [hr] at hs; exact ⟨r, rfl, by simpa using hs⟩
  have hof := fun w' (x : Ext NoB w w') => of_some d F D.room mo rs s w' (hd.no x) r hr
  have hown := hd.rows.own r (rsGet_mem hr).1
  obtain ⟨a, c, hv, hnv, hcm⟩ := RdB.shape (l := r.f.data) hown.rd
  rw [hv] at hof
  have hss : (s.toList == s'.toList) = false := by
    rw [ByteArray.toList_eq, ByteArray.toList_eq]
    refine beq_false_of_ne (fun h => hne ?_)
    cases s; cases s'
    simpa using congrArg List.toArray h
  have HD := Lib.hid hd
  have HR := Lib.hid hr
  have He := Lib.hid he
  have HO := Lib.hid hof
  have HV := Lib.hid hv
  clear hd hs hr he hof hown hv
  go_enter Tryz.func114, Tryz.ntmps114
  go_wp2_with fail
  refine (isName_any s' _).mono ?_; rintro e w1 ⟨rfl, rfl⟩
  rw [hn]
  go_wp2_with fail
  refine (HO.out w (Ext.refl _ w)).mono ?_; rintro e w1 ⟨rfl, x1⟩
  go_wp2_with fail
  have x2 : Ext NoB w (w1.alloc (.cells #[.slice a r.f.data.length c, .int .i64 r.f.lasts] 109)) := x1.alloc _
  have b1 : (w1.alloc (.cells #[.slice a r.f.data.length c, .int .i64 r.f.lasts] 109)).heap[w1.heap.size]? = some (.cells #[.slice a r.f.data.length c, .int .i64 r.f.lasts] 109 (0, 0)) := blk_new w1 _
  generalize (w1.alloc (.cells #[.slice a r.f.data.length c, .int .i64 r.f.lasts] 109)) = W at x2 b1 ⊢
  obtain ⟨B, hB⟩ : ∃ B, w1.heap.size = B := ⟨_, rfl⟩
  rw [hB] at b1 ⊢
  have HB := Lib.hid (show w.heap.size ≤ B from hB ▸ x1.size)
  have HB2 := Lib.hid b1
  clear hB b1 x1
  refine (Remove_at d F D.room mo rs s W (HD.out.no x2) r HR.out).mono ?_
  rintro e w3 ⟨rfl, x3, mo', d3, o3, hm3⟩
  obtain ⟨m, rfl⟩ := Option.isSome_iff_exists.1 hm3
  have b3 := x3.blk HB2.out (fun h => absurd (HD.out.lt B h) (Nat.not_lt.2 HB.out))
  have g0 : w3.cell? ⟨B, 0, none⟩ = some (.slice a r.f.data.length c) := by rw [cell_of_blk b3]; rfl
  have g1 : w3.cell? ⟨B, 1, none⟩ = some (.int .i64 r.f.lasts) := by rw [cell_of_blk b3]; rfl
  clear b3 hm3
  have D3 := Lib.hid d3
  have O3 := Lib.hid o3
  have X3 := Lib.hid x3
  have X2 := Lib.hid x2
  clear d3 o3 x3 x2
  go_wp2_with fail
  have hd := HD.out
  have hr := HR.out
  have hrm := rsGet_mem hr
  have d3 := D3.out
  have hdel : (rsDel rs s).length < 256 := by
    have h1 : (rsDel rs s).length < rs.length := by
      unfold rsDel
      rw [List.length_filter_lt_length_iff_exists]
      exact ⟨r, hrm.1, by simp [hrm.2]⟩
    have := hd.count
    omega
  obtain ⟨old, oldn, oldl, hlook⟩ := look_cases (rsDel rs s) s'
  have hus := used_del hd.nodup hr
  have hfits := hd.fits
  have hr30 := hd.room30
  have h4 := lay_at d _ D.room m (rsDel rs s) s' r.v r.f w3 d3 old oldn oldl hlook O3.out ?_ hn (by omega) hdel (by omega)
  · rw [HV.out] at h4
    refine h4.mono ?_
    rintro e w4 ⟨rfl, x4, d4⟩
    have X4 := Lib.hid x4
    have D4 := Lib.hid d4
    clear x4 d4 h4 d3 hd hr hrm hlook hus
    go_wp2_with fail
    go_ret
    have x3 := X3.out
    have x2 := X2.out
    have xW : Ext F w w4 := ((x2.of_no).trans x3).next X4.out (fun b hb hl => hb.elim id (fun h => by have := x2.size; omega))
    refine ⟨rfl, xW, _, _, D4.out.wider (F' := Gr F w w4) ?_ ?_, ?_⟩
    · intro b hb
      have h1 := x2.size; have h3 := x3.size; have h4 := X4.out.size
      rcases hb with (hb | hb) | hb
      · exact .inl hb
      · exact .inr (by omega)
      · exact .inr (by omega)
    · intro b hb
      rcases hb with hb | hb
      · exact Nat.lt_of_lt_of_le (HD.out.lt b hb) xW.size
      · exact hb.2
    · show fsPut (fsDel D.files s) s' r.f = _
      rw [rsPut_pf, rsDel_pf, He.out]
  · intro g hg
    refine ⟨.inl (hd.rows.foot r hrm.1 g hg), fun y hy _ => ?_⟩
    have hy' : y ∈ rs ∧ y.name ≠ s := by
      unfold rsDel at hy
      simpa using hy
    have := apart_sym hd.rows.apart hrm.1 hy'.1 (by rw [hrm.2]; exact Ne.symm hy'.2) g hg
    exact this
end Go.Proofs.YtgglbholbkdgfaaGreatDoor
