/- Lists of files: what a put and a deletion do to them; the files' rows behind a put. No walk. -/
import Derived.Test.YtgglbholbkdgfaaGreatDoorB7
namespace Go.Proofs.YtgglbholbkdgfaaGreatDoor
open Go.RowKit

/-- The footprint behind a call that makes nothing for others. -/
def Gr (F : Nat → Prop) (w w' : World) : Nat → Prop := fun b => F b ∨ (w.heap.size ≤ b ∧ b < w'.heap.size)
def fsPut (fs : List (ByteArray × PFile)) (s : ByteArray) (f : PFile) : List (ByteArray × PFile) :=
  if (fsGet fs s).isSome then fs.map (fun p => if p.1 = s then (s, f) else p) else fs ++ [(s, f)]
def fsDel (fs : List (ByteArray × PFile)) (s : ByteArray) : List (ByteArray × PFile) := fs.filter (fun p => decide (p.1 ≠ s))
def rsPut (rs : List RFile) (r : RFile) : List RFile :=
  if (rsGet rs r.name).isSome then rs.map (fun x => if x.name = r.name then r else x) else rs ++ [r]
theorem rsPut_kv (rs : List RFile) (r : RFile) : (rsPut rs r).map RFile.kv = kvPut (rs.map RFile.kv) r.name (.agg #[r.v, .int .i64 r.f.lasts]) := by
  unfold rsPut kvPut
  rw [rsGet_kv]
  cases rsGet rs r.name with
  | none => simp [RFile.kv]
  | some x =>
    simp only [Option.isSome_some, Option.map_some, if_true, List.map_map]
    apply List.map_congr_left
    intro y _
    simp only [Function.comp, RFile.kv]
    split <;> simp [RFile.kv, *]
theorem rsPut_pf (rs : List RFile) (r : RFile) : (rsPut rs r).map RFile.pf = fsPut (rs.map RFile.pf) r.name r.f := by
  unfold rsPut fsPut
  rw [rsGet_pf]
  cases rsGet rs r.name with
  | none => simp [RFile.pf]
  | some x =>
    simp only [Option.isSome_some, Option.map_some, if_true, List.map_map]
    apply List.map_congr_left
    intro y _
    simp only [Function.comp, RFile.pf]
    split <;> simp [RFile.pf, *]


theorem DiskAt.nodup {w : World} {d : Nat} {F : Nat → Prop} {room : Nat} {mo : Option Nat} {rs : List RFile} (h : DiskAt w d F room mo rs) : (rs.map (·.name)).Nodup := by
  rcases h.map with ⟨_, rfl⟩ | ⟨m, _, _, hm⟩
  · simp
  · have := hm.nodup
    simp only [List.map_map] at this
    exact this

theorem apart_sym {rs : List RFile} (h : rs.Pairwise (fun a b => ∀ g, a.v.ownBlock = some g → b.v.ownBlock ≠ some g)) {a b : RFile} (ha : a ∈ rs) (hb : b ∈ rs) (hne : a.name ≠ b.name) : ∀ g, a.v.ownBlock = some g → b.v.ownBlock ≠ some g := by
  induction rs with
  | nil => cases ha
  | cons x rs ih =>
    rw [List.pairwise_cons] at h
    rcases List.mem_cons.1 ha with ea | ha'
    · rcases List.mem_cons.1 hb with eb | hb'
      · exact (hne (by rw [ea, eb])).elim
      · rw [ea]; exact h.1 b hb'
    · rcases List.mem_cons.1 hb with eb | hb'
      · intro g hg hg'; rw [eb] at hg'; exact h.1 a ha' g hg' hg
      · exact ih h.2 ha' hb'

theorem mem_rsPut {rs : List RFile} {r x : RFile} (h : x ∈ rsPut rs r) : x = r ∨ (x ∈ rs ∧ x.name ≠ r.name) := by
  unfold rsPut at h
  cases hg : rsGet rs r.name with
  | none =>
    rw [hg] at h
    simp only [Option.isSome_none, Bool.false_eq_true, if_false, List.mem_append, List.mem_singleton] at h
    rcases h with h | h
    · refine .inr ⟨h, fun e => ?_⟩
      have := List.find?_eq_none.1 hg x h
      simp [e] at this
    · exact .inl h
  | some y =>
    rw [hg] at h
    simp only [Option.isSome_some, if_true, List.mem_map] at h
    obtain ⟨z, hz, rfl⟩ := h
    by_cases e : z.name = r.name
    · simp [e]
    · simp [e, hz]

theorem rows_put {w w' : World} {F F' G : Nat → Prop} {rs : List RFile} {r : RFile} (h : Rows2 w F rs) (hnd : (rs.map (·.name)).Nodup) (x : Ext G w w') (hG : ∀ y ∈ rs, y.name ≠ r.name → Off G y.v)
    (ho : Own w' 5 1 r.v (bytesV r.f.data)) (hv : ∀ g, r.v.ownBlock = some g → F' g ∧ ∀ y ∈ rs, y.name ≠ r.name → y.v.ownBlock ≠ some g) (hF : ∀ b, F b → F' b) : Rows2 w' F' (rsPut rs r) := by
  refine ⟨fun y hy => ?_, fun y hy g hg => ?_, ?_⟩
  · rcases mem_rsPut hy with rfl | ⟨hy, hne⟩
    · exact ho
    · exact (h.own y hy).ext x (hG y hy hne)
  · rcases mem_rsPut hy with rfl | ⟨hy, hne⟩
    · exact (hv g hg).1
    · exact hF g (h.foot y hy g hg)
  · have hnd' : rs.Pairwise (fun a b => a.name ≠ b.name) := by
      unfold List.Nodup at hnd
      rwa [List.pairwise_map] at hnd
    have hall := h.apart.and hnd'
    unfold rsPut
    cases hg : rsGet rs r.name with
    | none =>
      simp only [Option.isSome_none, Bool.false_eq_true, if_false]
      rw [List.pairwise_append]
      refine ⟨h.apart, by simp, fun a ha b hb => ?_⟩
      simp only [List.mem_singleton] at hb
      subst hb
      intro g hga hgb
      have hne : a.name ≠ b.name := fun e => by
        have := List.find?_eq_none.1 hg a ha
        simp [e] at this
      exact (hv g hgb).2 a ha hne hga
    | some y =>
      simp only [Option.isSome_some, if_true]
      rw [List.pairwise_map]
      refine List.Pairwise.imp_of_mem ?_ hall
      intro a b ha hb hab g
      obtain ⟨h1, h2⟩ := hab
      by_cases ea : a.name = r.name
      · have eb : b.name ≠ r.name := fun e => h2 (ea.trans e.symm)
        rw [if_pos ea, if_neg eb]
        intro hg' hgb
        exact (hv g hg').2 b hb eb hgb
      · rw [if_neg ea]
        by_cases eb : b.name = r.name
        · rw [if_pos eb]
          intro hga hgr
          exact (hv g hgr).2 a ha ea hga
        · rw [if_neg eb]; exact h1 g

theorem used_put_found {rs : List RFile} {r x : RFile} (hnd : (rs.map (·.name)).Nodup) (h : rsGet rs r.name = some x) : usedL ((rsPut rs r).map RFile.pf) + x.f.data.length = usedL (rs.map RFile.pf) + r.f.data.length := by
  unfold rsPut
  rw [h]
  simp only [Option.isSome_some, if_true]
  unfold usedL
  induction rs with
  | nil => cases h
  | cons y rs ih =>
    simp only [List.map_cons, List.nodup_cons] at hnd
    simp only [List.map_cons, List.sum_cons]
    unfold rsGet at h
    rw [List.find?_cons] at h
    by_cases e : y.name = r.name
    · simp only [e, decide_true] at h
      cases h
      have : rs.map (fun x => if x.name = r.name then r else x) = rs := by
        conv => rhs; rw [← List.map_id rs]
        apply List.map_congr_left
        intro z hz
        have : z.name ≠ r.name := fun e' => hnd.1 (List.mem_map.2 ⟨z, hz, e'.trans e.symm⟩)
        simp [this]
      rw [if_pos e, this]
      simp only [RFile.pf]
      omega
    · simp only [e, decide_false] at h
      rw [if_neg e]
      have := ih hnd.2 h
      simp only [List.map_map] at this ⊢
      omega
theorem used_put_new {rs : List RFile} {r : RFile} (h : rsGet rs r.name = none) : usedL ((rsPut rs r).map RFile.pf) = usedL (rs.map RFile.pf) + r.f.data.length := by
  unfold rsPut
  rw [h]
  simp [usedL, RFile.pf]
theorem length_rsPut_found {rs : List RFile} {r x : RFile} (h : rsGet rs r.name = some x) : (rsPut rs r).length = rs.length := by
  unfold rsPut; rw [h]; simp
theorem length_rsPut_new {rs : List RFile} {r : RFile} (h : rsGet rs r.name = none) : (rsPut rs r).length = rs.length + 1 := by
  unfold rsPut; rw [h]; simp

def rsDel (rs : List RFile) (s : ByteArray) : List RFile := rs.filter (fun r => decide (r.name ≠ s))
theorem rsDel_kv (rs : List RFile) (s : ByteArray) : (rsDel rs s).map RFile.kv = kvDel (rs.map RFile.kv) s := by
  unfold rsDel kvDel
  rw [List.filter_map]
  rfl
theorem rsDel_pf (rs : List RFile) (s : ByteArray) : (rsDel rs s).map RFile.pf = fsDel (rs.map RFile.pf) s := by
  unfold rsDel fsDel
  rw [List.filter_map]
  rfl
theorem used_del {rs : List RFile} {s : ByteArray} {x : RFile} (hnd : (rs.map (·.name)).Nodup) (h : rsGet rs s = some x) : usedL ((rsDel rs s).map RFile.pf) + x.f.data.length = usedL (rs.map RFile.pf) := by
  unfold rsDel usedL
  induction rs with
  | nil => cases h
  | cons y rs ih =>
    simp only [List.map_cons, List.nodup_cons] at hnd
    simp only [List.map_cons, List.sum_cons]
    unfold rsGet at h
    rw [List.find?_cons] at h
    by_cases e : y.name = s
    · simp only [e, decide_true] at h
      cases h
      have : rs.filter (fun r => decide (r.name ≠ s)) = rs := by
        rw [List.filter_eq_self]
        intro z hz
        simp only [decide_eq_true_eq]
        intro e'
        exact hnd.1 (List.mem_map.2 ⟨z, hz, e'.trans e.symm⟩)
      rw [List.filter_cons_of_neg (by simp [e]), this]
      simp only [RFile.pf]
      omega
    · simp only [e, decide_false] at h
      rw [List.filter_cons_of_pos (by simpa using e)]
      have := ih hnd.2 h
      simp only [List.map_cons, List.sum_cons]
      omega
theorem DiskAt.del {w w' : World} {d m : Nat} {F G : Nat → Prop} {room us : Nat} {mo : Option Nat} {rs : List RFile} {s : ByteArray} (h : DiskAt w d F room mo rs) (x : Ext G w w')
    (hGr : ∀ y ∈ rs, Off G y.v) (hb : w'.heap[d]? = some (.cells #[.int .i64 room, .int .i64 us, .map (some m)] 87 (0, 0))) (hus : us = usedL ((rsDel rs s).map RFile.pf)) (hfit : us ≤ room)
    (hm : MapIs w' m (kvDel (rs.map RFile.kv) s)) (hmF : F m) : DiskAt w' d (Gr F w w') room (some m) (rsDel rs s) := by
  have hsub : (rsDel rs s).Sublist rs := List.filter_sublist
  refine ⟨?_, .inl h.self, .inr ⟨m, rfl, .inl hmF, ?_⟩, ⟨fun y hy => (h.rows.own y (hsub.subset hy)).ext x (hGr y (hsub.subset hy)), fun y hy g hg => .inl (h.rows.foot y (hsub.subset hy) g hg), h.rows.apart.sublist hsub⟩, ?_, h.room30, ?_, fun y hy => h.names y (hsub.subset hy), Nat.le_trans hsub.length_le h.count⟩
  · rw [← hus]; exact hb
  · rw [rsDel_kv]; exact hm
  · intro b hb
    rcases hb with hb | hb
    · exact Nat.lt_of_lt_of_le (h.lt b hb) x.size
    · exact hb.2
  · rw [← hus]; exact hfit
/-- A disk behind a put of a file that was there, or of a new one. -/
theorem DiskAt.put {w w' : World} {d m : Nat} {F G : Nat → Prop} {room us : Nat} {mo : Option Nat} {rs : List RFile} {r : RFile} (h : DiskAt w d F room mo rs) (x : Ext G w w')
    (hG : ∀ b, G b → F b) (hGr : ∀ y ∈ rs, y.name ≠ r.name → Off G y.v)
    (hb : w'.heap[d]? = some (.cells #[.int .i64 room, .int .i64 us, .map (some m)] 87 (0, 0))) (hus : us = usedL ((rsPut rs r).map RFile.pf)) (hfit : us ≤ room)
    (hm : MapIs w' m (kvPut (rs.map RFile.kv) r.name (.agg #[r.v, .int .i64 r.f.lasts]))) (hmF : F m ∨ w.heap.size ≤ m)
    (ho : Own w' 5 1 r.v (bytesV r.f.data)) (hv : ∀ g, r.v.ownBlock = some g → (F g ∨ w.heap.size ≤ g) ∧ ∀ y ∈ rs, y.name ≠ r.name → y.v.ownBlock ≠ some g)
    (hn : isNm r.name = true) (hcount : (rsPut rs r).length ≤ 256) : DiskAt w' d (Gr F w w') room (some m) (rsPut rs r) := by
  have hnm : 1 ≤ r.name.size ∧ r.name.size ≤ 64 := by unfold isNm at hn; simpa using hn
  refine ⟨?_, .inl h.self, .inr ⟨m, rfl, hmF.elim .inl (fun hs => .inr ⟨hs, hm.lt⟩), ?_⟩, rows_put h.rows h.nodup x hGr ho (fun g hg => ⟨(hv g hg).1.elim .inl (fun hs => .inr ⟨hs, ho.lt g hg⟩), (hv g hg).2⟩) (fun b hb => .inl hb), ?_, h.room30, ?_, ?_, hcount⟩
  · rw [← hus]; exact hb
  · rw [rsPut_kv]; exact hm
  · intro b hb
    rcases hb with hb | hb
    · exact Nat.lt_of_lt_of_le (h.lt b hb) x.size
    · exact hb.2
  · rw [← hus]; exact hfit
  · intro y hy
    rcases mem_rsPut hy with rfl | ⟨hy, _⟩
    · exact hnm
    · exact h.names y hy
end Go.Proofs.YtgglbholbkdgfaaGreatDoor
