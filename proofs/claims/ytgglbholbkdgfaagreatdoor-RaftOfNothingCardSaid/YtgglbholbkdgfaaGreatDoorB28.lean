/- Package raft: what lies on a node's disk. No walk. -/
import Derived.Test.YtgglbholbkdgfaaGreatDoorB27
namespace Go.Proofs.YtgglbholbkdgfaaGreatDoor
open Go.RowKit

abbrev Files := List (ByteArray × PFile)
def nm (fs : Files) : List ByteArray := fs.map (·.1)
theorem fsGet_mem {fs : Files} (hn : (nm fs).Nodup) {s : ByteArray} {f : PFile} : fsGet fs s = some f ↔ (s, f) ∈ fs := by
  unfold fsGet
  induction fs with
  | nil => simp
  | cons p fs ih =>
    simp only [nm, List.map_cons, List.nodup_cons] at hn
    rw [List.find?_cons]
    by_cases e : p.1 = s
    · simp only [e, decide_true, Option.map_some, List.mem_cons]
      constructor
      · intro h; left; obtain ⟨a, b⟩ := p; simp at h e; rw [h, e]
      · rintro (h | h)
        · rw [← h]
        · exact (hn.1 (e ▸ List.mem_map.2 ⟨_, h, rfl⟩)).elim
    · simp only [e, decide_false, List.mem_cons]
      rw [ih hn.2]
      constructor
      · exact .inr
      · rintro (h | h)
        · exact (e (by rw [← h])).elim
        · exact h
theorem fsGet_none' {fs : Files} {s : ByteArray} : fsGet fs s = none ↔ s ∉ nm fs := by
  unfold fsGet nm
  simp only [Option.map_eq_none_iff, List.find?_eq_none, decide_eq_true_eq, List.mem_map, not_exists, not_and]
theorem nm_perm {fs gs : Files} (h : fs.Perm gs) : (nm fs).Perm (nm gs) := h.map _
theorem put_perm_new {fs rest : Files} {s : ByteArray} {f : PFile} (h : fs.Perm rest) (hs : s ∉ nm rest) : (fsPut fs s f).Perm ((s, f) :: rest) := by
  have h1 : fsGet fs s = none := fsGet_none'.2 (fun h' => hs ((nm_perm h).mem_iff.1 h'))
  unfold fsPut
  rw [h1]
  simp only [Option.isSome_none, Bool.false_eq_true, if_false]
  exact (List.perm_append_comm.trans (List.Perm.refl _)).trans (h.cons _)
theorem put_perm_old {fs rest : Files} {s : ByteArray} {f0 f : PFile} (h : fs.Perm ((s, f0) :: rest)) (hs : s ∉ nm rest) : (fsPut fs s f).Perm ((s, f) :: rest) := by
  have hmem : s ∈ nm fs := (nm_perm h).mem_iff.2 (by simp [nm])
  have h1 : (fsGet fs s).isSome = true := by
    cases h' : fsGet fs s with
    | none => exact (fsGet_none'.1 h' hmem).elim
    | some _ => rfl
  unfold fsPut
  rw [if_pos h1]
  refine (h.map _).trans ?_
  simp only [List.map_cons, if_true]
  have : rest.map (fun p => if p.1 = s then (s, f) else p) = rest := by
    conv => rhs; rw [← List.map_id rest]
    apply List.map_congr_left
    intro p hp
    have : p.1 ≠ s := fun e => hs (e ▸ List.mem_map.2 ⟨p, hp, rfl⟩)
    simp [this]
  rw [this]
theorem get_perm {fs rest : Files} {s : ByteArray} {f : PFile} (h : fs.Perm ((s, f) :: rest)) (hs : s ∉ nm rest) (hn : (nm rest).Nodup) : fsGet fs s = some f := by
  have h1 : (nm fs).Nodup := (nm_perm h).nodup_iff.2 (by simp only [nm, List.map_cons, List.nodup_cons] at hs hn ⊢; exact ⟨hs, hn⟩)
  exact (fsGet_mem h1).2 (h.mem_iff.2 (by simp))
theorem used_perm {fs gs : Files} (h : fs.Perm gs) : usedL fs = usedL gs := by
  unfold usedL
  exact (h.map _).sum_nat
theorem used_cons (p : ByteArray × PFile) (fs : Files) : usedL (p :: fs) = p.2.data.length + usedL fs := by simp [usedL]
theorem del_perm {fs rest : Files} {s : ByteArray} (h : fs.Perm rest) (hs : s ∉ nm rest) : fsDel fs s = fs := fsDel_none (fsGet_none'.2 (fun h' => hs ((nm_perm h).mem_iff.1 h')))

/-- A file of which all lasts. -/
def whole (l : List UInt8) : PFile := ⟨l, l.length⟩
/-- The term's file: a term and a vote. -/
def termB (t : Nat) (v : Int) : List UInt8 := uv t ++ uv (v + 1).toNat
/-- The files of a node: its term's, if it was written, and its log's. -/
def termFs (tf : Option (Nat × Int)) : Files := match tf with | some (t, v) => [(termName, whole (enc (termB t v)))] | none => []
def logFs (ps : List PSeg) : Files := ps.map (fun p => (segName logPre p.first, whole p.bytes))
def canon (tf : Option (Nat × Int)) (ps : List PSeg) : Files := termFs tf ++ logFs ps

theorem segName_size (n : Nat) (hn : n < 100) : (segName logPre n).size = 12 := by
  have hd := digits_small n hn
  have hrl : (⟨(Lib.repeatL zeroS.data.toList (8 - (Lib.decDigits n).length)).toArray⟩ : ByteArray).size = 8 - (Lib.decDigits n).length := by
    show (List.toArray _).size = _
    rw [List.size_toArray, Lib.repeatL_length]
    have : zeroS.data.toList.length = 1 := rfl
    rw [this]; omega
  have hdl : (⟨(Lib.decDigits n).toArray⟩ : ByteArray).size = (Lib.decDigits n).length := by
    show (List.toArray _).size = _
    rw [List.size_toArray]
  have h1 : dot.size = 1 := rfl
  have h2 : logPre.size = 3 := rfl
  unfold segName
  rw [ByteArray.size_append, ByteArray.size_append, ByteArray.size_append, hrl, hdl, h1, h2]
  omega
theorem logFs_ne {ps : List PSeg} (h : ∀ p ∈ ps, p.first < 100) (s : ByteArray) (hs : s.size ≠ 12) : s ∉ nm (logFs ps) := by
  intro hm
  unfold nm logFs at hm
  rw [List.map_map] at hm
  obtain ⟨p, hp, e⟩ := List.mem_map.1 hm
  have := segName_size p.first (h p hp)
  simp only [Function.comp] at e
  rw [e] at this
  exact hs this
theorem termName_size : termName.size = 4 := rfl
theorem shadow_size : (termName ++ tilde).size = 5 := by rw [ByteArray.size_append]; rfl
theorem uvF_pos (k n : Nat) (hk : 0 < k) : 1 ≤ (uvF k n).length := by
  cases k with
  | zero => omega
  | succ k => rw [uvF]; split <;> simp
theorem termB_len (t : Nat) (v : Int) : (termB t v).length ≤ 20 := by
  unfold termB
  have h1 := uv_length t
  have h2 := uv_length (v + 1).toNat
  simp only [List.length_append]; omega

/-- A node whose disk holds just what it should, all of it made to last: saved: its term was written. -/
structure RaftIs (w : World) (r d : Nat) (F : Nat → Prop) (N : PNode) (room : Nat) (saved : Bool) : Prop where
  is : ∃ D ps, NodeIs w r d F N D ps ∧ D.room = room ∧ D.files.Perm (canon (if saved then some (N.term, N.vote) else none) ps)
  fresh : saved = false → N.term = 0 ∧ N.vote = -1
  vote : -1 ≤ N.vote ∧ N.vote ≤ 5
  term : N.term ≤ 1099511627776
theorem RaftIs.ext {w w' : World} {r d : Nat} {F G : Nat → Prop} {N : PNode} {room : Nat} {saved : Bool} (h : RaftIs w r d F N room saved) (x : Ext G w w') (hG : ∀ b, F b → ¬ G b) : RaftIs w' r d F N room saved := by
  obtain ⟨D, ps, h1, h2, h3⟩ := h.is
  exact ⟨⟨D, ps, h1.ext x hG, h2, h3⟩, h.fresh, h.vote, h.term⟩
theorem RaftIs.no {w w' : World} {r d : Nat} {F : Nat → Prop} {N : PNode} {room : Nat} {saved : Bool} (h : RaftIs w r d F N room saved) (x : Ext NoB w w') : RaftIs w' r d F N room saved := h.ext x (fun _ _ h => h)
/-- How many bytes the log has. -/
def PNode.bytes (N : PNode) : Nat := (segBytes 1 (N.log.map entB)).length
theorem chain_bytes : ∀ {n : Nat} {ps : List PSeg} {m : Nat}, Chain n ps m → (ps.map (·.bytes)).flatten = segBytes n (ps.map (·.es)).flatten
  | n, [], m, h => rfl
  | n, p :: ps, m, h => by
    obtain ⟨h1, h2, h3⟩ := h
    simp only [List.map_cons, List.flatten_cons]
    rw [segBytes_append, chain_bytes h3, PSeg.bytes, h1]
theorem used_logFs (ps : List PSeg) : usedL (logFs ps) = ((ps.map (·.bytes)).flatten).length := by
  induction ps with
  | nil => rfl
  | cons p ps ih =>
    unfold logFs at ih ⊢
    simp only [List.map_cons, List.flatten_cons, List.length_append]
    rw [used_cons, ih]
    rfl
end Go.Proofs.YtgglbholbkdgfaaGreatDoor
