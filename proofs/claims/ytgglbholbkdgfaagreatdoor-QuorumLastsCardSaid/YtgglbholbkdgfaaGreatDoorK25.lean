/- Joined texts: B132. Each has its own head. -/
import Derived.Test.YtgglbholbkdgfaaGreatDoorK24
set_option linter.unusedVariables false
set_option linter.unusedSimpArgs false
namespace Go.Proofs.YtgglbholbkdgfaaGreatDoor
open Go.RowKit
def fcN {α : Type} (n : Nat) (k : Nat → α) : α := match n with | 0 => k 0 | m + 1 => k (m + 1)
theorem fcN_eq {α : Type} (n : Nat) (k : Nat → α) : fcN n k = k n := by cases n <;> rfl
def fcI {α : Type} (n : Int) (k : Int → α) : α := match n with | .ofNat m => fcN m fun m => k (.ofNat m) | .negSucc m => fcN m fun m => k (.negSucc m)
theorem fcI_eq {α : Type} (n : Int) (k : Int → α) : fcI n k = k n := by cases n <;> simp [fcI, fcN_eq]
def fcB {α : Type} (b : Bool) (k : Bool → α) : α := match b with | true => k true | false => k false
theorem fcB_eq {α : Type} (n : Bool) (k : Bool → α) : fcB n k = k n := by cases n <;> rfl
def tab5 (f : Nat → Nat) (a b c d e : Nat) : Nat → Nat := fun i => match i with | 0 => a | 1 => b | 2 => c | 3 => d | 4 => e | j + 5 => f (j + 5)
theorem tab5_eq (f : Nat → Nat) : tab5 f (f 0) (f 1) (f 2) (f 3) (f 4) = f := by
 funext i
 match i with
 | 0 => rfl
 | 1 => rfl
 | 2 => rfl
 | 3 => rfl
 | 4 => rfl
 | j + 5 => rfl
def fcF {α : Type} (f : Nat → Nat) (k : (Nat → Nat) → α) : α := fcN (f 0) fun a => fcN (f 1) fun b => fcN (f 2) fun c => fcN (f 3) fun d => fcN (f 4) fun e => k (tab5 f a b c d e)
theorem fcF_eq {α : Type} (f : Nat → Nat) (k : (Nat → Nat) → α) : fcF f k = k f := by simp only [fcF, fcN_eq, tab5_eq]
def fcL {α β : Type} (g : β → (β → α) → α) : List β → (List β → α) → α
 | [], k => k []
 | x :: l, k => g x fun x => fcL g l fun l => k (x :: l)
theorem fcL_eq {α β : Type} (g : β → (β → α) → α) (hg : ∀ x k, g x k = k x) : ∀ (l : List β) (k : List β → α), fcL g l k = k l
 | [], k => rfl
 | x :: l, k => by rw [fcL, hg, fcL_eq g hg l]
def fcE {α : Type} (e : Ent) (k : Ent → α) : α := match e with | (t, d) => fcN t fun t => k (t, d)
theorem fcE_eq {α : Type} (e : Ent) (k : Ent → α) : fcE e k = k e := by obtain ⟨t, d⟩ := e; simp only [fcE, fcN_eq]
def fcNode {α : Type} (N : PNode) (k : PNode → α) : α := match N with
 | ⟨id, n, term, vote, role, leader, committed, taken, wait, voted, next, mt, log⟩ => fcN id fun id => fcN n fun n => fcN term fun term => fcI vote fun vote => fcN role fun role => fcI leader fun leader => fcN committed fun committed => fcN taken fun taken => fcI wait fun wait => fcN voted fun voted => fcF next fun next => fcF mt fun mt => fcL fcE log fun log => k ⟨id, n, term, vote, role, leader, committed, taken, wait, voted, next, mt, log⟩
theorem fcNode_eq {α : Type} (N : PNode) (k : PNode → α) : fcNode N k = k N := by
 obtain ⟨id, n, term, vote, role, leader, committed, taken, wait, voted, next, mt, log⟩ := N
 simp only [fcNode, fcN_eq, fcI_eq, fcF_eq, fcL_eq _ fcE_eq]
def fcMem {α : Type} (m : PMem) (k : PMem → α) : α := match m with | ⟨up, N, took⟩ => fcB up fun up => fcNode N fun N => fcL fcE took fun took => k ⟨up, N, took⟩
theorem fcMem_eq {α : Type} (m : PMem) (k : PMem → α) : fcMem m k = k m := by obtain ⟨up, N, took⟩ := m; simp only [fcMem, fcB_eq, fcNode_eq, fcL_eq _ fcE_eq]
def fcMsg {α : Type} (m : QMsg) (k : QMsg → α) : α := match m with | ⟨fr, tt, kd, nums, es⟩ => fcN fr fun fr => fcN tt fun tt => fcN kd fun kd => fcL fcN nums fun nums => fcL fcE es fun es => k ⟨fr, tt, kd, nums, es⟩
theorem fcMsg_eq {α : Type} (m : QMsg) (k : QMsg → α) : fcMsg m k = k m := by obtain ⟨fr, tt, kd, nums, es⟩ := m; simp only [fcMsg, fcN_eq, fcL_eq _ fcN_eq, fcL_eq _ fcE_eq]
def PGroup.fc {α : Type} (G : PGroup) (k : PGroup → α) : α := match G with | ⟨n, mem, row, draws⟩ => fcN n fun n => fcL fcMem mem fun mem => fcL fcMsg row fun row => fcN draws fun draws => k ⟨n, mem, row, draws⟩
theorem PGroup.fc_eq {α : Type} (G : PGroup) (k : PGroup → α) : G.fc k = k G := by obtain ⟨n, mem, row, draws⟩ := G; simp only [PGroup.fc, fcN_eq, fcL_eq _ fcMem_eq, fcL_eq _ fcMsg_eq]
theorem settle_add : ∀ (a b : Nat) (G : PGroup), PGroup.settle (a + b) G = (match PGroup.settle a G with | none => none | some G => PGroup.settle b G)
 | 0, b, G => by rw [Nat.zero_add]; rfl
 | a + 1, b, G => by
  rw [show a + 1 + b = (a + b) + 1 by omega, settle_beat, settle_beat]
  cases G.beat with
  | none => rfl
  | some G1 => exact settle_add a b G1
def PGroup.tens : Nat → PGroup → Option PGroup
 | 0, G => some G
 | k + 1, G => match PGroup.settle 10 G with | none => none | some G => G.fc fun G => PGroup.tens k G
theorem tens_eq : ∀ (k : Nat) (G : PGroup), PGroup.tens k G = PGroup.settle (10 * k) G
 | 0, G => rfl
 | k + 1, G => by
  rw [PGroup.tens, show 10 * (k + 1) = 10 + 10 * k by omega, settle_add]
  cases PGroup.settle 10 G with
  | none => rfl
  | some G1 => dsimp only; rw [PGroup.fc_eq]; exact tens_eq k G1
def PGroup.settleF (k : Nat) (G : PGroup) : Option PGroup := match PGroup.settle (k % 10) G with | none => none | some G => G.fc fun G => PGroup.tens (k / 10) G
theorem settleF_eq (k : Nat) (G : PGroup) : PGroup.settleF k G = PGroup.settle k G := by
 have h := settle_add (k % 10) (10 * (k / 10)) G
 rw [Nat.mod_add_div] at h
 rw [h]
 unfold PGroup.settleF
 cases PGroup.settle (k % 10) G with
 | none => rfl
 | some G1 => dsimp only; rw [PGroup.fc_eq]; exact tens_eq _ G1
def PGroup.staysF (f : PGroup → Bool) : Nat → PGroup → Bool
 | 0, G => f G
 | k + 1, G => f G && (match G.beat with | none => false | some G => G.fc fun G => PGroup.staysF f k G)
theorem staysF_eq (f : PGroup → Bool) : ∀ (k : Nat) (G : PGroup), PGroup.staysF f k G = PGroup.stays f k G
 | 0, G => rfl
 | k + 1, G => by
  rw [PGroup.staysF, PGroup.stays]
  cases G.beat with
  | none => rfl
  | some G1 => dsimp only; rw [PGroup.fc_eq, staysF_eq f k G1]
def PGroup.led2B (G : PGroup) (old ld : Nat) : Bool := decide (G.mem.length = 3) && decide (G.n = 3) && (List.range 3).all (fun k => match G.mem[k]? with | none => false | some m => (m.up == !decide (k = old)) && (!m.up || (decide (m.N.role = 2) == decide (k = ld))))
def PGroup.haveB (G : PGroup) (n was : Nat) (tok : List UInt8) : Bool := decide (G.mem.length = n) && decide (G.n = n) && (List.range n).all (fun k => match G.mem[k]? with | none => false | some m => decide (was < m.took.length) && decide (m.took.length ≤ 1000) && m.took.any (fun e => e.2 == tok))
def splitRest (old was : Nat) (G : PGroup) : Bool := match G.start old with
 | none => false
 | some Gb => (match PGroup.settleF 120 Gb with | none => false | some Ge => Ge.haveB 3 was [2])
def splitB (old ld lo cnt : Nat) : Bool := decide (ld < 3) && decide (old ≠ ld) && (match PGroup.settleF 200 (PGroup.newG 3) with
 | none => false
 | some G => G.ledB 3 old && decide (G.tookN old ≤ 1000) && (match G.crash old with
  | none => false
  | some Gc => (match PGroup.settleF 120 Gc with
   | none => false
   | some G2 => G2.led2B old ld && (match G2.propose ld [2] with
    | none => false
    | some (q, Gp) => decide (q.2 = 0) && (match PGroup.settleF (20 + lo) Gp with
     | none => false
     | some Ga => PGroup.staysF (splitRest old (G.tookN old)) cnt Ga)))))
def fewB (n ld : Nat) : Bool := match PGroup.settleF 200 (PGroup.newG n) with
 | none => false
 | some G => G.ledB n ld && (match PGroup.downN n ld n 0 0 G with
  | none => false
  | some Gd => (match Gd.propose ld [1] with
   | none => false
   | some (q, Gp) => decide (q.2 = 0) && decide (Gd.tookN ld ≤ 1000) && PGroup.staysF (fun G => decide (G.tookN ld = Gd.tookN ld)) 300 Gp))
theorem few_of {n ld : Nat} (h : fewB n ld = true) : ∃ G Gd Gp q, PGroup.settle 200 (PGroup.newG n) = some G ∧ Led G n ld ∧ PGroup.downN n ld n 0 0 G = some Gd ∧ Gd.propose ld [1] = some ((q, 0), Gp) ∧ Gd.tookN ld ≤ 1000 ∧ ∀ t, t ≤ 300 → ∃ Gt, PGroup.settle t Gp = some Gt ∧ Gt.tookN ld = Gd.tookN ld := by
 unfold fewB at h
 split at h
 ·cases h
 ·next G hG =>
  rw [settleF_eq] at hG
  rw [Bool.and_eq_true] at h
  obtain ⟨h1, h⟩ := h
  split at h
  ·cases h
  ·next Gd hd =>
   split at h
   ·cases h
   ·next q Gp hp =>
    obtain ⟨q, c⟩ := q
    simp only [Bool.and_eq_true, decide_eq_true_eq] at h
    obtain ⟨⟨hc, hl⟩, h⟩ := h
    subst hc
    refine ⟨G, Gd, Gp, q, hG, led_of h1, hd, hp, hl, fun t ht => ?_⟩
    rw [staysF_eq] at h
    obtain ⟨Gt, h1, h2⟩ := stays_all _ 300 Gp h t ht
    exact ⟨Gt, h1, by simpa using h2⟩
end Go.Proofs.YtgglbholbkdgfaaGreatDoor
