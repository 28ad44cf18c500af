/- Joined texts: B140 B141. Each has its own head. -/
import Derived.Test.YtgglbholbkdgfaaGreatDoorK25
import Derived.Test.YtgglbholbkdgfaaGreatDoorK26
set_option linter.unusedVariables false
set_option linter.unusedSimpArgs false
namespace Go.Proofs.YtgglbholbkdgfaaGreatDoor
open Go.RowKit
def PGroup.crashes (G : PGroup) : Nat → Nat → Option PGroup
 | 0, _ => some G
 | k + 1, i => match G.crash i with | none => none | some G => G.crashes k (i + 1)
def PGroup.startAll (G : PGroup) : Nat → Nat → Option PGroup
 | 0, _ => some G
 | k + 1, i => match G.start i with | none => none | some G => G.startAll k (i + 1)
def PGroup.proposeAll (G : PGroup) (p : List UInt8) : Nat → Nat → Option PGroup
 | 0, _ => some G
 | k + 1, i => match G.propose i p with | none => none | some (_, G) => G.proposeAll p k (i + 1)
def likeF (f g : Nat → Nat) : Bool := Nat.beq (f 0) (g 0) && (Nat.beq (f 1) (g 1) && (Nat.beq (f 2) (g 2) && (Nat.beq (f 3) (g 3) && Nat.beq (f 4) (g 4))))
def PNode.like (T U : PNode) : Bool := Nat.beq T.id U.id && (Nat.beq T.n U.n && (Nat.beq T.term U.term && (decide (T.vote = U.vote) && (Nat.beq T.role U.role && (decide (T.leader = U.leader) && (Nat.beq T.committed U.committed && (Nat.beq T.taken U.taken && (decide (T.wait = U.wait) && (Nat.beq T.voted U.voted && (likeF T.next U.next && (likeF T.mt U.mt && decide (T.log = U.log))))))))))))
def PMem.like (m k : PMem) : Bool := m.up && (k.up && (m.N.like k.N && decide (m.took = k.took)))
def likeL : List PMem → List PMem → Bool
 | [], [] => true
 | m :: l, k :: r => m.like k && likeL l r
 | _, _ => false
def PGroup.like (G H : PGroup) : Bool := Nat.beq G.n H.n && (Nat.beq G.draws H.draws && (G.row.isEmpty && (H.row.isEmpty && likeL G.mem H.mem)))
theorem likeF_of {f g : Nat → Nat} (h : likeF f g = true) : f 0 = g 0 ∧ f 1 = g 1 ∧ f 2 = g 2 ∧ f 3 = g 3 ∧ f 4 = g 4 := by
 unfold likeF at h
 simpa only [Bool.and_eq_true, Nat.beq_eq] using h
theorem NodeQ.like {w : World} {r d : Nat} {F : Nat → Prop} {φ : List UInt8 → List UInt8} {T U : PNode} (h : NodeQ w r d F φ T) (hl : T.like U = true) : NodeQ w r d F φ U := by
 obtain ⟨s, hR⟩ := h
 obtain ⟨L, tv, hb, hi1, hi2, hcm, -⟩ := hR.cells
 unfold PNode.like at hl
 simp only [Bool.and_eq_true, Nat.beq_eq, decide_eq_true_eq] at hl
 obtain ⟨e1, e2, e3, e4, e5, e6, e7, e8, e9, e10, f1, f2, e11⟩ := hl
 obtain ⟨n0, n1, n2, n3, n4⟩ := likeF_of f1
 obtain ⟨m0, m1, m2, m3, m4⟩ := likeF_of f2
 have elog : (U.sub φ).log = (T.sub φ).log := by show U.log.map _ = T.log.map _; rw [e11]
 refine ⟨s, (hR.set (N' := U.sub φ) (Ext.refl _ w) (fun L tv hb => ?_) elog (by show U.id < U.n ∧ U.n ≤ 5; rw [← e1, ← e2]; exact ⟨hi1, hi2⟩) (by rw [elog]; show U.committed ≤ _; rw [← e7]; exact hcm) e3.symm e4.symm).1⟩
 rw [hb]
 have : nodeArr (T.sub φ) d L tv = nodeArr (U.sub φ) d L tv := by
  unfold nodeArr
  show #[Value.int .i64 (T.id : Int), Value.int .i64 (T.n : Int), _, _, tv, Value.int .i64 (T.term : Int), Value.int .i64 T.vote, Value.int .i64 (T.role : Int), Value.int .i64 T.leader, Value.int .i64 (T.committed : Int), Value.int .i64 (T.taken : Int), Value.int .i64 T.wait, Value.int .u8 (T.voted : Int),
   Value.int .i64 (T.next 0 : Int), Value.int .i64 (T.next 1 : Int), Value.int .i64 (T.next 2 : Int), Value.int .i64 (T.next 3 : Int), Value.int .i64 (T.next 4 : Int), Value.int .i64 (T.mt 0 : Int), Value.int .i64 (T.mt 1 : Int), Value.int .i64 (T.mt 2 : Int), Value.int .i64 (T.mt 3 : Int), Value.int .i64 (T.mt 4 : Int), Value.bool false] = _
  rw [e1, e2, e3, e4, e5, e6, e7, e8, e9, e10, n0, n1, n2, n3, n4, m0, m1, m2, m3, m4]
  rfl
 rw [this]
theorem likeL_of : ∀ {l r : List PMem}, likeL l r = true → l.length = r.length ∧ ∀ (i : Nat) (k : PMem), r[i]? = some k → ∃ m, l[i]? = some m ∧ m.like k = true
 | [], [], _ => ⟨rfl, fun i k h => by cases h⟩
 | m :: l, k :: r, h => by
  rw [likeL, Bool.and_eq_true] at h
  obtain ⟨h1, h2⟩ := likeL_of h.2
  refine ⟨by simp [h1], fun i x hx => ?_⟩
  cases i with
  | zero => cases hx; exact ⟨m, rfl, h.1⟩
  | succ i => exact h2 i x hx
 | [], k :: r, h => by cases h
 | m :: l, [], h => by cases h
theorem PGroup.like_of {G H : PGroup} (h : G.like H = true) : G.n = H.n ∧ G.draws = H.draws ∧ G.row = [] ∧ H.row = [] ∧ likeL G.mem H.mem = true := by
 unfold PGroup.like at h
 simpa only [Bool.and_eq_true, Nat.beq_eq, List.isEmpty_iff] using h
theorem GAt.like {w : World} {g : Nat} {FS : Nat → Nat → Prop} {φ : List UInt8 → List UInt8} {G H : PGroup} {ms : List MInfo} {rv : Value} (h : GAt w g FS φ G ms rv) (hl : G.like H = true) : GAt w g FS φ H ms rv := by
 obtain ⟨e1, e2, e3, e4, e5⟩ := PGroup.like_of hl
 obtain ⟨hlen, hget⟩ := likeL_of e5
 refine ⟨by rw [← e1, ← e2]; exact h.blk, h.self, h.lt, h.apart, ?_, by rw [← e2]; exact h.draws, by rw [← e1]; exact h.n, by rw [← hlen]; exact h.len, h.five, fun i x k hx hk => ?_, h.mbs, by rw [e4]; exact Nat.zero_le _, h.tks⟩
 ·have := h.row
  rw [e3] at this
  rw [e4]
  exact this
 ·obtain ⟨m, hm, hmk⟩ := hget i k hk
  have hi := h.mem i x m hx hm
  unfold PMem.like at hmk
  simp only [Bool.and_eq_true, decide_eq_true_eq] at hmk
  obtain ⟨u1, u2, hN, ht⟩ := hmk
  refine ⟨hi.blk, hi.own, ?_, by rw [← ht]; exact hi.tak⟩
  rcases hi.node with ⟨_, r, hp, hq⟩ | ⟨h1, _⟩
  ·exact .inl ⟨u2, r, hp, hq.like hN⟩
  ·rw [u1] at h1; cases h1
def openedN (id n : Nat) (log : List Ent) (x : Nat × Int × Int) : PNode := { savedNode id n 0 x.1 x.2.1 with wait := x.2.2, log := log }
def openedL (n : Nat) (log : List Ent) : Nat → List (Nat × Int × Int) → List PMem
 | _, [] => []
 | i, x :: l => ⟨true, openedN i n log x, []⟩ :: openedL n log (i + 1) l
def openedG (n : Nat) (log : List Ent) (l : List (Nat × Int × Int)) (d : Nat) : PGroup := ⟨n, openedL n log 0 l, [], d⟩
def rowLog : Nat → List Ent
 | 0 => []
 | k + 1 => rowLog k ++ [(k + 1, []), (k + 1, [UInt8.ofNat (k + 1)])]
def PGroup.allTook (G : PGroup) (n : Nat) (l : List Ent) : Bool := decide (G.mem.length = n) && decide (G.n = n) && G.mem.all (fun m => m.up && decide (m.took = l))
def lastB (n k : Nat) (G : PGroup) : Bool := match PGroup.settleF 100 G with | none => false | some D => D.allTook n (rowLog k ++ [(k + 1, [])])
def rowB (n k : Nat) (B T : PGroup) : Bool := match B.proposeAll [UInt8.ofNat (k + 1)] n 0 with
 | none => false
 | some P => (match PGroup.settleF 5 P with
  | none => false
  | some S => S.allTook n (rowLog (k + 1)) && (match S.crashes n 0 with
   | none => false
   | some C => (match C.startAll n 0 with
    | none => false
    | some T' => T'.like T)))
def stageB (n k t : Nat) (A T : PGroup) : Bool := match PGroup.settleF t A with | none => false | some B => lastB n k B && rowB n k B T
def stageE (n k t : Nat) (A : PGroup) : Bool := match PGroup.settleF t A with | none => false | some B => decide (B.mem.length = n) && decide (B.n = n) && lastB n k B
end Go.Proofs.YtgglbholbkdgfaaGreatDoor
namespace Go.Proofs.YtgglbholbkdgfaaGreatDoor
open Go.RowKit
def tbl1 : List (List (Nat × Int × Int) × Nat) := [([(1, 0, 11)], 564073304),
 ([(2, 0, 16)], 1577911370),
 ([(3, 0, 13)], 1221525356),
 ([(4, 0, 11)], 1761602878),
 ([(5, 0, 14)], 1813144128),
 ([(6, 0, 14)], 1648213746),
 ([(7, 0, 17)], 1960726484),
 ([(8, 0, 17)], 1355836774),
 ([(9, 0, 18)], 764320808),
 ([(10, 0, 14)], 983215258),
 ([(11, 0, 17)], 2138692412),
 ([(12, 0, 10)], 256635022)]
def tbl3 : List (List (Nat × Int × Int) × Nat) := [([(1, 0, 12), (1, 1, 15), (1, 0, 17)], 1272565082),
 ([(2, 0, 13), (2, 0, 11), (2, 0, 12)], 167624412),
 ([(3, 1, 11), (3, 1, 14), (3, 1, 10)], 1011404826),
 ([(4, 2, 19), (4, 2, 19), (4, 2, 11)], 1478159752),
 ([(5, 2, 11), (5, 2, 18), (5, 2, 10)], 864617126),
 ([(6, 2, 14), (6, 2, 10), (6, 2, 16)], 596666100),
 ([(7, 1, 15), (7, 1, 16), (7, 1, 19)], 1357954546),
 ([(8, 0, 16), (8, 0, 18), (8, 0, 11)], 1603612424),
 ([(9, 2, 19), (9, 2, 13), (9, 2, 12)], 1646108710),
 ([(10, 2, 17), (10, 2, 12), (10, 2, 17)], 2072670152),
 ([(11, 1, 14), (11, 1, 11), (11, 1, 11)], 1128553242),
 ([(12, 1, 18), (12, 1, 10), (12, 2, 15)], 1963593012)]
def tbl5 : List (List (Nat × Int × Int) × Nat) := [([(1, 0, 16), (1, 1, 12), (1, 0, 16), (1, 0, 14), (1, 0, 10)], 395404896),
 ([(2, 4, 19), (2, 4, 10), (2, 4, 15), (2, 4, 19), (2, 4, 13)], 492537118),
 ([(3, 1, 18), (3, 1, 11), (3, 1, 12), (3, 1, 12), (3, 1, 15)], 694398732),
 ([(4, 1, 19), (4, 1, 14), (4, 1, 12), (4, 1, 16), (4, 1, 15)], 845029290),
 ([(5, 2, 19), (5, 2, 19), (5, 2, 19), (5, 2, 17), (5, 2, 13)], 1253827424),
 ([(6, 4, 12), (6, 4, 14), (6, 4, 18), (6, 4, 18), (6, 4, 18)], 485357638),
 ([(7, 0, 10), (7, 0, 11), (7, 0, 10), (7, 0, 10), (7, 0, 15)], 1039983580),
 ([(8, 0, 18), (8, 0, 11), (8, 2, 13), (8, 3, 11), (8, 0, 16)], 1296413866),
 ([(9, 1, 17), (9, 1, 14), (9, 1, 12), (9, 3, 10), (9, 1, 13)], 103719312),
 ([(10, 3, 17), (10, 3, 16), (10, 3, 12), (10, 3, 10), (10, 3, 15)], 487095246),
 ([(11, 3, 18), (11, 3, 17), (11, 3, 17), (11, 3, 17), (11, 3, 19)], 1947471164),
 ([(12, 1, 18), (12, 1, 17), (12, 2, 10), (12, 3, 17), (12, 1, 17)], 47149402)]
def stT (n : Nat) (tbl : List (List (Nat × Int × Int) × Nat)) (k : Nat) : PGroup := match k with
 | 0 => PGroup.newG n
 | k + 1 => (match tbl[k]? with | some x => openedG n (rowLog (k + 1)) x.1 x.2 | none => PGroup.newG n)
def ticksOf (k : Nat) : Nat := match k with | 0 => 200 | _ + 1 => 120
end Go.Proofs.YtgglbholbkdgfaaGreatDoor
