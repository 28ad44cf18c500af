/- Package disk: List at whatever disk: the names, sorted. -/
import Derived.Test.YtgglbholbkdgfaaGreatDoorB16
import Derived.StringKeys
namespace Go.Proofs.YtgglbholbkdgfaaGreatDoor
open Go.RowKit Go.MapKept Go.WideElems Go.WideShapes

/-- A disk's names, sorted as Go sorts strings. -/
def names (fs : List (ByteArray × PFile)) : List (List UInt8) := (fs.map (fun p => p.1.data.toList)).mergeSort (fun x y => decide (x ≤ y))
def anyR : Value → Option (DataW Unit × List MemPlace) := fun _ => some (.nil, [])

theorem insert_all_perm {H : Type} (l : List (Lit × DataW H)) : (l.foldr DataW.insert []).Perm l := by
  induction l with
  | nil => exact .refl _
  | cons x l ih => exact (insert_perm x _).trans (ih.cons x)

theorem kv_strKeys {es : Array MapEntry} {kv : List (ByteArray × Value)} (he : es.toList.map (fun e => (e.key, e.val)) = kv.map (fun p => (Value.string p.1, p.2))) (hk : ∀ p ∈ kv, p.1.size ≤ 64) :
    (∀ x ∈ es.toList, ∃ y, rd Tryz.prog 9 anyR x = some y) ∧ (strKeys (DataW.map ((es.toList.map (rg Tryz.prog 9 anyR)).foldr DataW.insert []))).Perm (kv.map (fun p => p.1.data.toList)) := by
  have h1 : ∀ x ∈ es.toList, ∃ p ∈ kv, x.key = .string p.1 := by
    intro x hx
    have : (x.key, x.val) ∈ kv.map (fun p => (Value.string p.1, p.2)) := by rw [← he]; exact List.mem_map.2 ⟨x, hx, rfl⟩
    obtain ⟨p, hp, e⟩ := List.mem_map.1 this
    exact ⟨p, hp, by simpa using (congrArg (·.1) e).symm⟩
  have h2 : ∀ x ∈ es.toList, ∀ p ∈ kv, x.key = .string p.1 → rd Tryz.prog 9 anyR x = some (.string p.1.data.toList, .nil) := by
    intro x hx p hp e
    unfold rd
    rw [e, Go.WideMaps.keyOf_string_mk unString (by have := hk p hp; unfold maxLen; omega)]
    rfl
  refine ⟨fun x hx => ?_, ?_⟩
  · obtain ⟨p, hp, e⟩ := h1 x hx
    exact ⟨_, h2 x hx p hp e⟩
  · have h3 : es.toList.map (rg Tryz.prog 9 anyR) = kv.map (fun p => ((.string p.1.data.toList, .nil) : Lit × DataW Unit)) := by
      have h4 : es.toList.map (rg Tryz.prog 9 anyR) = (es.toList.map (fun e => (e.key, e.val))).map (fun q => match q.1 with | .string s => (.string s.data.toList, .nil) | _ => (.bool false, .nil)) := by
        rw [List.map_map]
        apply List.map_congr_left
        intro x hx
        obtain ⟨p, hp, e⟩ := h1 x hx
        simp only [Function.comp]
        unfold rg
        rw [h2 x hx p hp e, e]
        rfl
      rw [h4, he, List.map_map]
      rfl
    show ((List.foldr DataW.insert [] _).map fun p => strOf p.1).Perm _
    refine ((insert_all_perm _).map _).trans ?_
    rw [h3, List.map_map]
    exact .refl _

/-- What is said of the names handed back. -/
def NamesEnds (fs : List (ByteArray × PFile)) (w : World) (e : Ending) (w' : World) : Prop :=
  ∃ v, e = .returned v ∧ Own w' 9 1 v ((names fs).map encStr) ∧ Fresh w v ∧ Ext NoB w w'

theorem own_of_row {w : World} {base : Nat} {e n : Nat} {v : Value} {xs : List Value} (h : w.ownsRow base e 1 v n xs) : Own w e 1 v xs ∧ ∀ g, v.ownBlock = some g → base ≤ g := by
  obtain ⟨h1, h2 | ⟨g, cap, cur, rfl, h2, h3, h4, h5, h6, h7⟩⟩ := h
  · obtain ⟨rfl, rfl⟩ := h2
    have : xs = [] := List.eq_nil_of_length_eq_zero (by simpa using h1)
    exact ⟨.inl ⟨rfl, this⟩, fun g hg => by cases hg⟩
  · exact ⟨.inr ⟨g, n, cap, cur, rfl, h3, h4, by omega, h5, h1, h7⟩, fun g' hg => by simp [Value.ownBlock] at hg; omega⟩

set_option maxRecDepth 100000 in
set_option maxHeartbeats 400000 in
theorem List_any (d : Nat) (F : Nat → Prop) (D : PDisk) (w : World) (hd : DiskIs w d F D) :
    Calls Tryz.prog 51 #[.pointer (some ⟨d, 0, none⟩)] w (NamesEnds D.files w) := by
  obtain ⟨mo, rs, hd, he⟩ := hd
  rcases hd.map with ⟨rfl, rfl⟩ | ⟨m, rfl, _, hm⟩
  · refine (List_none d F D.room w hd).mono ?_
    rintro e w' ⟨h1, h2⟩
    refine ⟨_, h1, ?_, Fresh.nil _ _ _, h2⟩
    rw [he]
    simp only [names, List.map_nil, List.mergeSort_nil]
    exact Own.nil _ _ _
  · have hcount := hd.count
    have hnames := hd.names
    have hc : w.cell? ⟨d, 2, none⟩ = some (.map (some m)) := by rw [cell_of_blk hd.blk]; rfl
    obtain ⟨es, clock, hb, hst, hkv⟩ := hm
    have hsz : es.size = rs.length := by have := MapIs.len hkv; simpa using this
    obtain ⟨k1, k2⟩ := kv_strKeys hkv (fun p hp => by
      obtain ⟨r, hr, rfl⟩ := List.mem_map.1 hp
      exact (hnames r hr).2)
    have hown : w.ownsMap Tryz.prog 9 anyR m rs.length (.map ((es.toList.map (rg Tryz.prog 9 anyR)).foldr DataW.insert [])) :=
      ⟨es, clock, hb, ⟨by unfold maxLen; omega, hst, k1⟩, by omega, rfl⟩
    have hD : Maps.size (DataW.map ((es.toList.map (rg Tryz.prog 9 anyR)).foldr DataW.insert [])) = rs.length := by
      show List.length _ = _
      rw [(insert_all_perm _).length_eq]
      simpa using hsz
    have hk := Lib.hid (callsIn_wide.1 (Tryz.maps_Keys_89 (some m) w))
    have hs := Lib.hid (callsIn_wide.1 (Tryz.slices_Sorted_keys_88_89 m rs.length _ anyR w hown (by rw [hD]; unfold maxLen; omega) (by rw [hD]; omega)))
    have hp : (strKeys (DataW.map ((es.toList.map (rg Tryz.prog 9 anyR)).foldr DataW.insert []))).Perm (D.files.map (fun p => p.1.data.toList)) := by
      refine k2.trans ?_
      rw [he, List.map_map, List.map_map]
      exact .refl _
    have Hp := Lib.hid hp
    clear hd hown hD k1 k2 hkv hst hb hnames hp he
    go_enter Tryz.func51, Tryz.ntmps51
    go_wp2_with fail
    refine hk.out.mono ?_; rintro e w1 ⟨rfl, rfl⟩
    go_wp2_with fail
    refine hs.out.mono ?_; rintro e w2 ⟨v, ss, rfl, h1, h2, h3, h4⟩
    obtain ⟨o2, f2⟩ := own_of_row h2
    have hv : ∃ a n c, v = .slice a n c := by
      rcases o2 with ⟨h, _⟩ | ⟨g, n, cap, cur, h, _⟩
      · exact ⟨_, _, _, h⟩
      · exact ⟨_, _, _, h⟩
    obtain ⟨a, n, c, rfl⟩ := hv
    have H1 := Lib.hid h1
    have H2 := Lib.hid o2
    have H3 := Lib.hid f2
    clear h1 h2 o2 f2 h3
    go_wp2_with fail
    go_ret
    refine ⟨_, rfl, ?_, fun g hg => Nat.le_trans (by simp) (H3.out g hg), ((Ext.refl _ w).alloc _).trans (Ext.of_below h4)⟩
    unfold names
    rw [mergeSort_of_perm (Hp.out.symm.trans H1.out.symm)]
    exact H2.out
end Go.Proofs.YtgglbholbkdgfaaGreatDoor
