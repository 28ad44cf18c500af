/- Package raft: a node in memory; last, termOf, most, anew. -/
import Derived.Test.YtgglbholbkdgfaaGreatDoorB25
namespace Go.Proofs.YtgglbholbkdgfaaGreatDoor
open Go.RowKit

/-- A node: what its cells hold. -/
structure PNode where
  id : Nat
  n : Nat
  term : Nat
  vote : Int
  role : Nat
  leader : Int
  committed : Nat
  taken : Nat
  wait : Int
  voted : Nat
  next : Nat → Nat
  mt : Nat → Nat
  log : List (Nat × List UInt8)
def PNode.terms (N : PNode) : List Nat := N.log.map (·.1)
def entB (e : Nat × List UInt8) : List UInt8 := uv e.1 ++ e.2
def nodeArr (N : PNode) (d L : Nat) (tv : Value) : Array Value :=
  #[.int .i64 N.id, .int .i64 N.n, .pointer (some ⟨d, 0, none⟩), .pointer (some ⟨L, 0, none⟩), tv, .int .i64 N.term, .int .i64 N.vote, .int .i64 N.role, .int .i64 N.leader, .int .i64 N.committed, .int .i64 N.taken, .int .i64 N.wait, .int .u8 N.voted,
    .int .i64 (N.next 0), .int .i64 (N.next 1), .int .i64 (N.next 2), .int .i64 (N.next 3), .int .i64 (N.next 4), .int .i64 (N.mt 0), .int .i64 (N.mt 1), .int .i64 (N.mt 2), .int .i64 (N.mt 3), .int .i64 (N.mt 4), .bool false]
abbrev logPre : ByteArray := { data := #[108, 111, 103] }
abbrev termName : ByteArray := { data := #[116, 101, 114, 109] }

/-- A node in memory: r its block, L its log's, d its disk's; FD, FL, FR the blocks of disk, log, node. -/
structure NodeAt (w : World) (r L d : Nat) (FD FL FR : Nat → Prop) (tv : Value) (N : PNode) (D : PDisk) (ps : List PSeg) (dl : Bool) : Prop where
  blk : w.heap[r]? = some (.cells (nodeArr N d L tv) 92 (0, 0))
  self : FR r
  terms : Own w 3 1 tv (natsV N.terms)
  termsF : ∀ g, tv.ownBlock = some g → FR g
  store : Store w L d FD FL logPre D ps (N.log.length + 1) dl
  apD : ∀ b, FR b → ¬ FD b
  apL : ∀ b, FR b → ¬ FL b
  lt : ∀ b, FR b → b < w.heap.size
  coh : (ps.map (·.es)).flatten = N.log.map entB
  idn : N.id < N.n ∧ N.n ≤ 5
  comm : N.committed ≤ N.log.length

theorem Store.ext {w w' : World} {L d : Nat} {FD FL G : Nat → Prop} {pre : ByteArray} {D : PDisk} {ps : List PSeg} {m : Nat} {dl : Bool} (h : Store w L d FD FL pre D ps m dl) (x : Ext G w w') (hG : ∀ b, (FD b ∨ FL b) → ¬ G b) : Store w' L d FD FL pre D ps m dl := by
  obtain ⟨sv, rs, h1, h2, h3⟩ := h.log
  exact ⟨h.disk.ext x (fun b hb => hG b (.inl hb)), ⟨sv, rs, h1.ext x (fun b hb => hG b (.inr hb)), h2, h3⟩, h.apart⟩
theorem NodeAt.ext {w w' : World} {r L d : Nat} {FD FL FR G : Nat → Prop} {tv : Value} {N : PNode} {D : PDisk} {ps : List PSeg} {dl : Bool} (h : NodeAt w r L d FD FL FR tv N D ps dl) (x : Ext G w w') (hG : ∀ b, (FD b ∨ FL b ∨ FR b) → ¬ G b) : NodeAt w' r L d FD FL FR tv N D ps dl :=
  ⟨x.blk h.blk (hG _ (.inr (.inr h.self))), h.self, h.terms.ext x (fun g hg => hG g (.inr (.inr (h.termsF g hg)))), h.termsF, h.store.ext x (fun b hb => hG b (hb.elim .inl (fun h => .inr (.inl h)))), h.apD, h.apL, fun b hb => Nat.lt_of_lt_of_le (h.lt b hb) x.size, h.coh, h.idn, h.comm⟩
theorem NodeAt.no {w w' : World} {r L d : Nat} {FD FL FR : Nat → Prop} {tv : Value} {N : PNode} {D : PDisk} {ps : List PSeg} {dl : Bool} (h : NodeAt w r L d FD FL FR tv N D ps dl) (x : Ext NoB w w') : NodeAt w' r L d FD FL FR tv N D ps dl := h.ext x (fun _ _ h => h)
theorem NodeAt.len {w : World} {r L d : Nat} {FD FL FR : Nat → Prop} {tv : Value} {N : PNode} {D : PDisk} {ps : List PSeg} {dl : Bool} (h : NodeAt w r L d FD FL FR tv N D ps dl) : N.log.length < 100 := by
  obtain ⟨_, _, h1, _, _⟩ := h.store.log
  have := h1.m100
  omega

/-- A node as the world sees it: F: all its blocks. -/
def NodeIs (w : World) (r d : Nat) (F : Nat → Prop) (N : PNode) (D : PDisk) (ps : List PSeg) : Prop :=
  ∃ L FD FL FR tv dl, NodeAt w r L d FD FL FR tv N D ps dl ∧ (∀ b, (FD b ∨ FL b ∨ FR b) → F b) ∧ ∀ b, F b → b < w.heap.size
theorem NodeIs.ext {w w' : World} {r d : Nat} {F G : Nat → Prop} {N : PNode} {D : PDisk} {ps : List PSeg} (h : NodeIs w r d F N D ps) (x : Ext G w w') (hG : ∀ b, F b → ¬ G b) : NodeIs w' r d F N D ps := by
  obtain ⟨L, FD, FL, FR, tv, dl, h1, h2, h3⟩ := h
  exact ⟨L, FD, FL, FR, tv, dl, h1.ext x (fun b hb => hG b (h2 b hb)), h2, fun b hb => Nat.lt_of_lt_of_le (h3 b hb) x.size⟩
theorem NodeIs.no {w w' : World} {r d : Nat} {F : Nat → Prop} {N : PNode} {D : PDisk} {ps : List PSeg} (h : NodeIs w r d F N D ps) (x : Ext NoB w w') : NodeIs w' r d F N D ps := h.ext x (fun _ _ h => h)

set_option maxRecDepth 100000 in
set_option maxHeartbeats 400000 in
theorem rlast_any (r d : Nat) (F : Nat → Prop) (N : PNode) (D : PDisk) (ps : List PSeg) (w : World) (h : NodeIs w r d F N D ps) :
    Calls Tryz.prog 54 #[.pointer (some ⟨r, 0, none⟩)] w fun e w' => e = .returned (.int .i64 N.log.length) ∧ w = w' := by
  obtain ⟨L, FD, FL, FR, tv, dl, h, _⟩ := h
  obtain ⟨a, c, rfl, hn, hc⟩ := Rd.shape h.terms.rd
  have c4 : w.cell? ⟨r, 4, none⟩ = some (.slice a (natsV N.terms).length c) := by rw [cell_of_blk h.blk]; rfl
  have hl : (natsV N.terms).length = N.log.length := by simp [natsV, PNode.terms]
  rw [hl] at c4
  clear h
  go_enter Tryz.func54, Tryz.ntmps54
  go_wp2_with fail
  go_ret
  exact ⟨rfl, rfl⟩

/-- The term of an entry; 0: there is none. -/
def PNode.termOf (N : PNode) (i : Nat) : Nat := if i = 0 then 0 else (N.terms[i - 1]?).getD 0
def PNode.has (N : PNode) (i : Int) : Bool := decide (0 ≤ i ∧ i ≤ N.log.length)

set_option maxRecDepth 100000 in
set_option maxHeartbeats 1000000 in
theorem termOf_any (r d : Nat) (F : Nat → Prop) (N : PNode) (D : PDisk) (ps : List PSeg) (i : Nat) (w : World) (h : NodeIs w r d F N D ps) (hi : i < 4611686018427387904) :
    Calls Tryz.prog 77 #[.pointer (some ⟨r, 0, none⟩), .int .i64 i] w fun e w' => e = .returned (.tuple #[.int .i64 (N.termOf i), .bool (N.has i)]) ∧ w = w' := by
  have hlast := Lib.hid (rlast_any r d F N D ps w h)
  obtain ⟨L, FD, FL, FR, tv, dl, h, _⟩ := h
  have hlen := h.len
  by_cases h0 : i = 0
  · subst h0
    have e1 : N.termOf 0 = 0 := rfl
    have e2 : N.has ((0 : Nat) : Int) = true := by unfold PNode.has; simp
    rw [e1, e2]
    clear h
    go_enter Tryz.func77, Tryz.ntmps77
    go_wp2_with fail
    go_ret2
    exact ⟨rfl, rfl⟩
  · by_cases hgt : N.log.length < i
    · have e1 : N.termOf i = 0 := by
        unfold PNode.termOf
        rw [if_neg h0, List.getElem?_eq_none (by simp [PNode.terms]; omega)]
        rfl
      have e2 : N.has (i : Int) = false := by unfold PNode.has; simp; omega
      rw [e1, e2]
      have hq1 : ¬ ((i : Int) < 1) := by omega
      have hq2 : (N.log.length : Int) < (i : Int) := by omega
      have hq3 : ((i : Int) == 0) = false := beq_eq_false_iff_ne.2 (by omega)
      clear h
      go_enter Tryz.func77, Tryz.ntmps77
      go_wp2_with fail
      refine hlast.out.mono ?_; rintro e w1 ⟨rfl, rfl⟩
      go_wp2_with fail
      go_ret2
      exact ⟨rfl, rfl⟩
    · obtain ⟨a, n', c, rfl, hl, hn, hc, _, hr⟩ := h.terms.rd
      have hl' : n' = N.log.length := by simpa [natsV, PNode.terms] using hl.symm
      subst hl'
      have c4 : w.cell? ⟨r, 4, none⟩ = some (.slice a N.log.length c) := by rw [cell_of_blk h.blk]; rfl
      have hlt : i - 1 < N.terms.length := by simp [PNode.terms]; omega
      obtain ⟨b, off, rfl, hr2⟩ := hr (by intro e; have := congrArg List.length e; simp [natsV, PNode.terms] at this; simp [this] at hgt; omega)
      have ce : w.cell? ⟨b, off + (i - 1), none⟩ = some (.int .i64 (N.termOf i)) := by
        refine hr2 _ _ ?_
        unfold natsV PNode.termOf
        rw [if_neg h0, List.getElem?_map, List.getElem?_eq_getElem hlt]
        rfl
      have e2 : N.has (i : Int) = true := by unfold PNode.has; simp; omega
      rw [e2]
      obtain ⟨t, ht⟩ : ∃ t, N.termOf i = t := ⟨_, rfl⟩
      rw [ht] at ce ⊢
      have hq1 : ¬ ((i : Int) < 1) := by omega
      have hq2 : ¬ ((N.log.length : Int) < (i : Int)) := by omega
      have hq3 : ((i : Int) == 0) = false := beq_eq_false_iff_ne.2 (by omega)
      have hw : IntKind.i64.wrap ((i : Int) - 1) = ((i - 1 : Nat) : Int) := by rw [IntWalk.i64_in _ (by omega)]; omega
      have hr0 : (0 : Int) ≤ ((i - 1 : Nat) : Int) := by omega
      have hr1 : ((i - 1 : Nat) : Int) < (N.log.length : Int) := by omega
      have hrn : (((i - 1 : Nat) : Int)).toNat = i - 1 := by omega
      clear h hr hr2 hl hlt ht e2
      go_enter Tryz.func77, Tryz.ntmps77
      go_wp2_with fail
      refine hlast.out.mono ?_; rintro e w1 ⟨rfl, rfl⟩
      go_wp2_with fail
      go_ret2
      exact ⟨rfl, rfl⟩
end Go.Proofs.YtgglbholbkdgfaaGreatDoor
