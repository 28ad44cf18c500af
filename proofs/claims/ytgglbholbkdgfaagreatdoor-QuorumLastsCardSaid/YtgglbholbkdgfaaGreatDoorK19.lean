/- Joined texts: B93 B94 B95 B96 B97 B98 B99. Each has its own head. -/
import Derived.Test.YtgglbholbkdgfaaGreatDoorK18
import Derived.Test.YtgglbholbkdgfaaGreatDoorK17
set_option linter.unusedVariables false
set_option linter.unusedSimpArgs false
namespace Go.Proofs.YtgglbholbkdgfaaGreatDoor
open Go.RowKit
structure Tok (φ : List UInt8 → List UInt8) : Prop where
 nil : φ [] = []
 len : ∀ x, (φ x).length ≤ 3000
def subE (φ : List UInt8 → List UInt8) (e : Ent) : Ent := (e.1, φ e.2)
def PNode.sub (φ : List UInt8 → List UInt8) (T : PNode) : PNode := { T with log := T.log.map (subE φ) }
def QMsg.real (φ : List UInt8 → List UInt8) (m : QMsg) : PMsg := ⟨m.fr, m.tt, m.kd, m.nums.map (fun (n : Nat) => (n : Int)), entsB (m.es.map (subE φ))⟩
theorem sub_terms (φ : List UInt8 → List UInt8) (T : PNode) : (T.sub φ).terms = T.terms := by
 unfold PNode.terms PNode.sub
 rw [List.map_map]
 rfl
theorem sub_termOf (φ : List UInt8 → List UInt8) (T : PNode) (i : Nat) : (T.sub φ).termOf i = T.termOf i := by
 unfold PNode.termOf
 rw [sub_terms]
theorem sub_len (φ : List UInt8 → List UInt8) (T : PNode) : (T.sub φ).log.length = T.log.length := by simp [PNode.sub]
theorem sub_send (φ : List UInt8 → List UInt8) (T : PNode) (t : Nat) : (T.sendQ t).real φ = sendMsg (T.sub φ) t := by
 unfold sendMsg
 rw [sub_termOf]
 show (⟨_, _, _, _, _⟩ : PMsg) = _
 have e : ((T.sub φ).log.drop ((T.sub φ).ahead t)).take 8 = ((T.log.drop (T.ahead t)).take 8).map (subE φ) := by
  rw [List.map_take, List.map_drop]; rfl
 rw [e]
 rfl
theorem sub_ask (φ : List UInt8 → List UInt8) (T : PNode) (t : Nat) : (T.askQ t).real φ = askMsg (T.sub φ) t := by
 unfold askMsg
 rw [sub_termOf, sub_len]
 rfl
theorem sub_haveTo (φ : List UInt8 → List UInt8) (T : PNode) (i : Nat) : ∀ k, (T.sub φ).haveTo i k = T.haveTo i k
 | 0 => rfl
 | k + 1 => by
  show (if k ≠ T.id ∧ i ≤ T.mt k then (T.sub φ).haveTo i k ||| 2 ^ k else (T.sub φ).haveTo i k) = _
  rw [sub_haveTo φ T i k]
  rfl
theorem sub_commitAt (φ : List UInt8 → List UInt8) (T : PNode) (i : Nat) : (T.sub φ).commitAt i = T.commitAt i := by
 unfold PNode.commitAt
 rw [sub_termOf, sub_haveTo]
 rfl
theorem sub_commitFrom (φ : List UInt8 → List UInt8) (T : PNode) : ∀ i, (T.sub φ).commitFrom i = T.commitFrom i
 | 0 => rfl
 | i + 1 => by
  show (if i + 1 ≤ T.committed then T.committed else if (T.sub φ).commitAt (i + 1) then i + 1 else (T.sub φ).commitFrom i) = _
  rw [sub_commitAt, sub_commitFrom φ T i]
  rfl
theorem sub_commits (φ : List UInt8 → List UInt8) (T : PNode) : (T.sub φ).commits = T.commits.sub φ := by
 unfold PNode.commits
 rw [sub_commitFrom, sub_len]
 rfl
theorem sub_lays (φ : List UInt8 → List UInt8) (T : PNode) (e : Ent) : (T.lays e).sub φ = (T.sub φ).lays (subE φ e) := by
 unfold PNode.sub PNode.lays
 simp
theorem sub_wins {φ : List UInt8 → List UInt8} (hφ : Tok φ) (T : PNode) : (T.sub φ).wins = T.wins.sub φ := by
 unfold PNode.wins
 rw [← sub_commits, sub_lays]
 have e : subE φ (T.term, []) = (T.term, []) := by unfold subE; rw [hφ.nil]
 have e2 : ((T.knows T.n).sub φ) = ((T.sub φ).knows (T.sub φ).n) := by unfold PNode.knows; rw [sub_len]; rfl
 rw [e, e2]
 rfl
theorem sub_sendAll (φ : List UInt8 → List UInt8) (T : PNode) (l : List Nat) : (l.map T.sendQ).map (QMsg.real φ) = l.map (sendMsg (T.sub φ)) := by
 rw [List.map_map]
 exact List.map_congr_left fun t _ => sub_send φ T t
theorem sub_askAll (φ : List UInt8 → List UInt8) (T : PNode) (l : List Nat) : (l.map T.askQ).map (QMsg.real φ) = l.map (askMsg (T.sub φ)) := by
 rw [List.map_map]
 exact List.map_congr_left fun t _ => sub_ask φ T t
theorem sub_toldL (φ : List UInt8 → List UInt8) : ∀ (es log : List Ent) (k : Nat) (lg : List Ent), toldL log k es = some lg → toldL (log.map (subE φ)) k (es.map (subE φ)) = some (lg.map (subE φ))
 | [], log, k, lg, h => by
  simp only [toldL, Option.some.injEq] at h
  subst h
  rfl
 | e :: es, log, k, lg, h => by
  rw [toldL] at h
  rw [List.map_cons, toldL, List.length_map, List.getElem?_map, Option.map_map]
  have e1 : ((fun x : Ent => x.1) ∘ subE φ) = (fun x : Ent => x.1) := rfl
  rw [e1]
  have e2 : (subE φ e).1 = e.1 := rfl
  rw [e2]
  split at h
  ·next h1 =>
   rw [if_pos h1]
   split at h
   ·next h2 => rw [if_pos h2]; exact sub_toldL φ es log (k + 1) lg h
   ·cases h
  ·next h1 =>
   rw [if_neg h1]
   split at h
   ·next h2 =>
    rw [if_pos h2]
    have := sub_toldL φ es (log ++ [e]) (k + 1) lg h
    rwa [List.map_append] at this
   ·cases h
structure Fit (T : PNode) : Prop where
 len : T.log.length ≤ 97
 term : T.term ≤ 1000000000
 wait : -100 < T.wait ∧ T.wait < 100
 com : T.committed ≤ T.log.length
 tak : T.taken ≤ T.committed
 idn : T.id < T.n
 n : T.n = 1 ∨ T.n = 3 ∨ T.n = 5
 vote : T.vote < T.n ∧ -1 ≤ T.vote
 voted : T.voted < 32
 terms : ∀ e ∈ T.log, e.1 ≤ 1000000000
 next : ∀ i, i < 5 → T.next i ≤ 1000 ∧ (T.role = 2 → i < T.n → 1 ≤ T.next i) ∧ T.mt i ≤ 1000
theorem fitI_of {T : PNode} {i : Nat} (h : fitI T i = true) : T.next i ≤ 1000 ∧ (T.role = 2 → i < T.n → 1 ≤ T.next i) ∧ T.mt i ≤ 1000 := by
 unfold fitI at h
 simp only [Bool.and_eq_true, Bool.or_eq_true, Nat.ble_eq, Bool.not_eq_true', ← Bool.not_eq_true, Nat.beq_eq] at h
 obtain ⟨a1, a2, a3⟩ := h
 exact ⟨a1, fun hr hn => by rcases a3 with h | h | h; exact absurd hr h; omega; exact h, a2⟩
theorem fit_of {T : PNode} (h : T.fit = true) : Fit T := by
 unfold PNode.fit at h
 simp only [Bool.and_eq_true, Bool.or_eq_true, Nat.ble_eq, Nat.beq_eq, Nat.blt_eq, List.all_eq_true] at h
 obtain ⟨h1, h2, h3, h5, h6, h7, h8, h9, h11, h12, i0, i1, i2, i3, i4⟩ := h
 refine ⟨h1, h2, ?_, h5, h6, h7, h8, ?_, h11, h12, fun i hi => ?_⟩
 ·generalize T.wait = wt at h3
  cases wt with
  | ofNat k => simp only [Nat.ble_eq] at h3; simp only [Int.ofNat_eq_natCast]; omega
  | negSucc k => simp only [Nat.ble_eq] at h3; omega
 ·generalize T.vote = v at h9
  cases v with
  | ofNat k => simp only [Nat.blt_eq] at h9; simp only [Int.ofNat_eq_natCast]; omega
  | negSucc k => simp only [Nat.beq_eq] at h9; omega
 ·match i, hi with
  | 0, _ => exact fitI_of i0
  | 1, _ => exact fitI_of i1
  | 2, _ => exact fitI_of i2
  | 3, _ => exact fitI_of i3
  | 4, _ => exact fitI_of i4
theorem sub_ok {φ : List UInt8 → List UInt8} (hφ : Tok φ) {T : PNode} (h : ∀ e ∈ T.log, e.1 ≤ 1000000000) : (T.sub φ).Ok := by
 intro e he
 obtain ⟨x, hx, rfl⟩ := List.mem_map.1 he
 have h1 := h x hx
 have h2 := hφ.len x.2
 exact ⟨by show x.1 ≤ _; omega, by show (φ x.2).length ≤ _; omega⟩
theorem sum_le {α : Type} (f : α → Nat) (c : Nat) : ∀ (l : List α), (∀ x ∈ l, f x ≤ c) → (l.map f).sum ≤ c * l.length
 | [], _ => by simp
 | x :: l, h => by
  have h1 := sum_le f c l (fun y hy => h y (by simp [hy]))
  have h2 := h x (by simp)
  simp only [List.map_cons, List.sum_cons, List.length_cons, Nat.mul_add]
  omega
theorem sub_bytes {φ : List UInt8 → List UInt8} (hφ : Tok φ) (l : List Ent) : (segBytes 1 ((l.map (subE φ)).map entB)).length ≤ 3028 * l.length := by
 refine Nat.le_trans (segBytes_le (l.map (subE φ)) 1) ?_
 have := sum_le (fun e : Nat × List UInt8 => 28 + e.2.length) 3028 (l.map (subE φ)) (fun e he => by
  obtain ⟨x, _, rfl⟩ := List.mem_map.1 he
  have := hφ.len x.2
  show 28 + (φ x.2).length ≤ 3028
  omega)
 rwa [List.length_map] at this
theorem sub_lay {φ : List UInt8 → List UInt8} (hφ : Tok φ) {T : PNode} (hl : T.log.length ≤ 97) (t : Nat) (ht : t ≤ 1099511627776) (x : List UInt8) (hx : x.length ≤ 3000) : LayOk (T.sub φ).log 1048576 t x := by
 have h1 := sub_bytes hφ T.log
 have h2 : (T.sub φ).log = T.log.map (subE φ) := rfl
 refine layOk_any _ _ t x (by omega) ht (by rw [sub_len]; omega) ?_
 rw [h2]
 omega
def NodeQ (w : World) (r d : Nat) (F : Nat → Prop) (φ : List UInt8 → List UInt8) (T : PNode) : Prop := ∃ s, RaftIs w r d F (T.sub φ) 1048576 s
def QEnds (r d : Nat) (F : Nat → Prop) (φ : List UInt8 → List UInt8) (w : World) (l : List QMsg) (T' : PNode) (e : Ending) (w' : World) : Prop :=
 ∃ v, e = .returned v ∧ MsgsAre w' v (l.map (QMsg.real φ)) ∧ Fresh w v ∧ Ext F w w' ∧ NodeQ w' r d (Gr F w w') φ T'
theorem Sends.q {r d : Nat} {F : Nat → Prop} {w w' : World} {Ms : List PMsg} {N' : PNode} {s : Bool} {e : Ending} (h : Sends r d F w Ms N' 1048576 s e w') {φ : List UInt8 → List UInt8} {l : List QMsg} {T' : PNode} (h1 : Ms = l.map (QMsg.real φ)) (h2 : N' = T'.sub φ) : QEnds r d F φ w l T' e w' := by
 subst h1; subst h2
 obtain ⟨v, rfl, hm, hf, hx, hR⟩ := h
 exact ⟨v, rfl, hm, hf, hx, s, hR⟩
theorem NodeQ.no {w w' : World} {r d : Nat} {F : Nat → Prop} {φ : List UInt8 → List UInt8} {T : PNode} (h : NodeQ w r d F φ T) (x : Ext NoB w w') : NodeQ w' r d F φ T := by
 obtain ⟨s, h⟩ := h
 exact ⟨s, h.no x⟩
theorem NodeQ.ext {w w' : World} {r d : Nat} {F G : Nat → Prop} {φ : List UInt8 → List UInt8} {T : PNode} (h : NodeQ w r d F φ T) (x : Ext G w w') (hG : ∀ b, F b → ¬ G b) : NodeQ w' r d F φ T := by
 obtain ⟨s, h⟩ := h
 exact ⟨s, h.ext x hG⟩
theorem NodeQ.lt {w : World} {r d : Nat} {F : Nat → Prop} {φ : List UInt8 → List UInt8} {T : PNode} (h : NodeQ w r d F φ T) : ∀ b, F b → b < w.heap.size := by
 obtain ⟨s, h⟩ := h
 exact h.lt
theorem Tick_Q {φ : List UInt8 → List UInt8} (hφ : Tok φ) (r d : Nat) (F : Nat → Prop) (T T' : PNode) (l : List QMsg) (draw : Nat) (w : World) (h : NodeQ w r d F φ T) (hs : T.tickP draw = some (l, T')) :
  Calls Tryz.prog 17 #[.pointer (some ⟨r, 0, none⟩), .int .i64 (draw : Int)] w (QEnds r d F φ w l T') := by
 obtain ⟨s, h⟩ := h
 unfold PNode.tickP at hs
 cases hf : T.fit with
 | false => rw [hf] at hs; simp at hs
 | true =>
 rw [hf] at hs
 have F' := fit_of hf
 simp only [Bool.not_true, Bool.false_eq_true, if_false] at hs
 have hbyt := sub_bytes hφ T.log
 have hroom : (T.sub φ).bytes + 100 ≤ 1048576 := by
  have := F'.len
  show (segBytes 1 ((T.log.map (subE φ)).map entB)).length + 100 ≤ _
  omega
 have hok := sub_ok hφ F'.terms
 by_cases hw : 1 < T.wait
 ·rw [if_pos hw] at hs
  obtain ⟨rfl, rfl⟩ : l = [] ∧ T' = { T with wait := T.wait - 1 } := by simpa [eq_comm] using hs
  refine (Tick_counts r d F (T.sub φ) 1048576 s draw w h ⟨hw, by show T.wait < 1000; have := F'.wait; omega⟩).mono ?_
  rintro e w' ⟨rfl, x, hR⟩
  exact ⟨_, rfl, ⟨[], .nil, Own.nil _ _ _⟩, Fresh.nil _ _ _, x, s, hR.wide (fun b hb => .inl hb) (fun b hb => hb.elim (hR.lt b) (fun h => h.2))⟩
 ·rw [if_neg hw] at hs
  by_cases hr : T.role = 2
  ·rw [if_pos hr] at hs
   obtain ⟨rfl, rfl⟩ : l = (tos T.n T.id).map { T with wait := 3 }.sendQ ∧ T' = { T with wait := 3 } := by simpa [eq_comm] using hs
   refine (Tick_leads r d F (T.sub φ) 1048576 s draw w h ⟨by show -1000 < T.wait; have := F'.wait; omega, by show T.wait ≤ 1; omega⟩ hr hok (fun t ht => ?_)).mono ?_
   ·have ht' : t < T.n := ht
    have h5 := F'.n
    have := F'.next t (by omega)
    exact ⟨this.2.1 hr ht', by show T.next t ≤ _; omega⟩
   ·intro e w' hS
    exact hS.q (sub_sendAll φ { T with wait := 3 } _).symm rfl
  ·rw [if_neg hr] at hs
   by_cases hn : T.n = 1
   ·rw [if_pos hn] at hs
    obtain ⟨rfl, rfl⟩ : l = [] ∧ T' = (T.asks draw).wins := by simpa [eq_comm] using hs
    have hst : ∀ w1, RaftIs w1 r d F { (T.sub φ) with wait := (T.sub φ).wait - 1 } 1048576 s → Calls Tryz.prog 44 #[.pointer (some ⟨r, 0, none⟩), .int .i64 (draw : Int)] w1 (Sends r d F w1 [] ((T.asks draw).wins.sub φ) 1048576 true) := fun w1 h1 => by
     refine (stands_alone r d F _ 1048576 s draw w1 h1 hn (by show T.term + 1 ≤ _; have := F'.term; omega) hroom (sub_lay hφ F'.len (T.term + 1) (by have := F'.term; omega) [] (Nat.zero_le _)) hok).mono ?_
     intro e w' hS
     have e1 : tos T.n T.id = [] := by
      have := F'.idn
      have h0 : T.id = 0 := by omega
      rw [hn, h0]; rfl
     have e2 : ((T.asks draw).sub φ).wins = (T.asks draw).wins.sub φ := sub_wins hφ _
     have hS' : Sends r d F w1 ((tos T.n T.id).map (sendMsg ((T.asks draw).sub φ).wins)) ((T.asks draw).sub φ).wins 1048576 true e w' := hS
     rw [e1, e2] at hS'
     exact hS'
    refine (Tick_stands r d F (T.sub φ) 1048576 s draw w h ⟨by show -1000 < T.wait; have := F'.wait; omega, by show T.wait ≤ 1; omega⟩ hr [] _ hst).mono ?_
    intro e w' hS
    exact hS.q rfl rfl
   ·rw [if_neg hn] at hs
    obtain ⟨rfl, rfl⟩ : l = (tos T.n T.id).map (T.asks draw).askQ ∧ T' = T.asks draw := by simpa [eq_comm] using hs
    have hst : ∀ w1, RaftIs w1 r d F { (T.sub φ) with wait := (T.sub φ).wait - 1 } 1048576 s → Calls Tryz.prog 44 #[.pointer (some ⟨r, 0, none⟩), .int .i64 (draw : Int)] w1 (Sends r d F w1 ((tos T.n T.id).map (askMsg ((T.asks draw).sub φ))) ((T.asks draw).sub φ) 1048576 true) := fun w1 h1 =>
     stands_many r d F _ 1048576 s draw w1 h1 (by show 3 ≤ T.n; have := F'.n; omega) (by show T.term + 1 ≤ _; have := F'.term; omega) hroom
    refine (Tick_stands r d F (T.sub φ) 1048576 s draw w h ⟨by show -1000 < T.wait; have := F'.wait; omega, by show T.wait ≤ 1; omega⟩ hr _ _ hst).mono ?_
    intro e w' hS
    exact hS.q (sub_askAll φ (T.asks draw) _).symm rfl
theorem Take_Q {φ : List UInt8 → List UInt8} (hφ : Tok φ) (r d : Nat) (F : Nat → Prop) (T : PNode) (w : World) (h : NodeQ w r d F φ T) (hf : T.fit = true) :
  Calls Tryz.prog 21 #[.pointer (some ⟨r, 0, none⟩)] w fun e w' => ∃ v, e = .returned v ∧ EntsNew w w' v (((T.log.take T.committed).drop T.taken).map (subE φ)) ∧ Fresh w v ∧ Ext F w w' ∧ NodeQ w' r d F φ (T.takes T.committed) := by
 obtain ⟨s, h⟩ := h
 have F' := fit_of hf
 refine (Take_new r d F (T.sub φ) 1048576 s w h (sub_ok hφ F'.terms) F'.tak).mono ?_
 rintro e w' ⟨v, rfl, hm, hf, hx, hR⟩
 refine ⟨v, rfl, ?_, hf, hx, s, hR⟩
 rw [List.map_drop, List.map_take]
 exact hm
end Go.Proofs.YtgglbholbkdgfaaGreatDoor
namespace Go.Proofs.YtgglbholbkdgfaaGreatDoor
open Go.RowKit
def numsI (l : List Nat) : List Int := l.map (fun (n : Nat) => (n : Int))
def HearsQ (φ : List UInt8 → List UInt8) (r d : Nat) (F : Nat → Prop) (m : QMsg) (l : List QMsg) (T' : PNode) (draw : Nat) (w : World) : Prop :=
 ∀ (na da : Option Addr) (nc dc : Nat), Own w 3 1 (.slice na m.nums.length nc) (intsV (numsI m.nums)) → Own w 5 1 (.slice da (entsB (m.es.map (subE φ))).length dc) (bytesV (entsB (m.es.map (subE φ)))) →
  Off F (.slice na m.nums.length nc) → Off F (.slice da (entsB (m.es.map (subE φ))).length dc) →
  Calls Tryz.prog 19 #[.pointer (some ⟨r, 0, none⟩), msgV m.fr m.tt m.kd (.slice na m.nums.length nc) (.slice da (entsB (m.es.map (subE φ))).length dc), .int .i64 (draw : Int)] w (QEnds r d F φ w l T')
theorem turn_sub (φ : List UInt8 → List UInt8) (T : PNode) (t0 : Nat) : (T.turn t0).sub φ = if T.term < t0 then (T.sub φ).newer_ t0 else T.sub φ := by
 unfold PNode.turn
 split <;> rfl
theorem grants_sub (φ : List UInt8 → List UInt8) (T : PNode) (fr t0 i1 t2 : Int) : (T.sub φ).grants fr t0 i1 t2 = T.grants fr t0 i1 t2 := by
 unfold PNode.grants PNode.newer
 rw [sub_termOf, sub_len]
 rfl
theorem room_sub {φ : List UInt8 → List UInt8} (hφ : Tok φ) {T : PNode} (h : Fit T) : (T.sub φ).bytes + 100 ≤ 1048576 := by
 have hbyt := sub_bytes hφ T.log
 have := h.len
 show (segBytes 1 ((T.log.map (subE φ)).map entB)).length + 100 ≤ _
 omega
theorem Hear_Q1 {φ : List UInt8 → List UInt8} (hφ : Tok φ) (r d : Nat) (F : Nat → Prop) (T : PNode) (fr t0 i1 t2 draw : Nat) (w : World) (h : NodeQ w r d F φ T) (hF : Fit T) (hfr : fr < T.n) (hne : fr ≠ T.id) (hb : t0 ≤ 1000000000 ∧ i1 ≤ 1000000000 ∧ t2 ≤ 1000000000) :
  HearsQ φ r d F ⟨fr, T.id, 1, [t0, i1, t2], []⟩ (if (T.turn t0).grants fr t0 i1 t2 then [(T.turn t0).voteQ fr 1] else [(T.turn t0).voteQ fr 0]) (if (T.turn t0).grants fr t0 i1 t2 then (T.turn t0).gives fr draw else T.turn t0) draw w := by
 intro na da nc dc hn hd offn offd
 obtain ⟨s, h⟩ := h
 have hcall := Hear_asks r d F (T.sub φ) 1048576 s fr draw na da nc 0 dc [(t0 : Int), (i1 : Int), (t2 : Int)] w h hn.rd offn (by show 3 ≤ _; omega) (room_sub hφ hF)
 refine hcall.mono ?_
 intro e w' ⟨s', hS⟩
 have hh : (T.sub φ).hears fr draw [(t0 : Int), (i1 : Int), (t2 : Int)] 0 = (if (T.turn t0).grants fr t0 i1 t2 then ([voteMsg ((T.turn t0).sub φ) fr 1], ((T.turn t0).gives fr draw).sub φ) else ([voteMsg ((T.turn t0).sub φ) fr 0], (T.turn t0).sub φ)) := by
  unfold PNode.hears
  have hm : mayB 1 [(t0 : Int), (i1 : Int), (t2 : Int)] 0 = true := by simp [mayB, goodB, okNum]; omega
  rw [if_neg (by
   rw [hm]
   have h1 : (T.sub φ).n = T.n := rfl
   have h2 : (T.sub φ).id = T.id := rfl
   rw [h1, h2]
   simp
   omega)]
  have e1 : (if ((T.sub φ).term : Int) < ([(t0 : Int), (i1 : Int), (t2 : Int)] : List Int).getD 0 0 then (T.sub φ).newer_ (([(t0 : Int), (i1 : Int), (t2 : Int)] : List Int).getD 0 0).toNat else T.sub φ) = (T.turn t0).sub φ := by
   rw [turn_sub]
   show (if ((T.term : Nat) : Int) < (t0 : Int) then (T.sub φ).newer_ t0 else T.sub φ) = _
   by_cases ht : T.term < t0
   ·rw [if_pos (by omega), if_pos ht]
   ·rw [if_neg (by omega), if_neg ht]
  rw [e1]
  show (if ((T.turn t0).sub φ).grants fr t0 i1 t2 = true then _ else _) = _
  rw [grants_sub]
  rfl
 rw [hh] at hS
 split
 ·next hg =>
  rw [if_pos hg] at hS
  exact hS.q rfl rfl
 ·next hg =>
  rw [if_neg hg] at hS
  exact hS.q rfl rfl
theorem Hear_Q2 {φ : List UInt8 → List UInt8} (hφ : Tok φ) (r d : Nat) (F : Nat → Prop) (T T' : PNode) (fr t0 y draw : Nat) (l : List QMsg) (w : World) (h : NodeQ w r d F φ T) (hF : Fit T) (hfr : fr < T.n) (hne : fr ≠ T.id) (hb : t0 ≤ 1000000000 ∧ y ≤ 1)
  (hs : (if (T.turn t0).role ≠ 1 ∨ t0 ≠ (T.turn t0).term ∨ y ≠ 1 then some ([], T.turn t0)
   else if mostOf T.n ((T.turn t0).adds fr).voted then some ((tos T.n T.id).map ((T.turn t0).adds fr).wins.sendQ, ((T.turn t0).adds fr).wins)
   else some ([], (T.turn t0).adds fr)) = some (l, T')) :
  HearsQ φ r d F ⟨fr, T.id, 2, [t0, y], []⟩ l T' draw w := by
 intro na da nc dc hn hd offn offd
 obtain ⟨s, h⟩ := h
 have hmay : ∀ w1, Ext NoB w w1 → Calls Tryz.prog 45 #[.pointer (some ⟨r, 0, none⟩), msgV fr (T.sub φ).id 2 (.slice na ([(t0 : Int), (y : Int)] : List Int).length nc) (.slice da 0 dc)] w1 (MayEnds true w1) := fun w1 x1 => by
  obtain ⟨D, ps, hN, _, _⟩ := (h.no x1).is
  exact may_2 r d F (T.sub φ) D ps fr na da nc dc [(t0 : Int), (y : Int)] w1 hN hfr hne (hn.no x1).rd (by show 2 ≤ _; omega) (by simp [goodB, okNum]; omega) y rfl (by omega)
 by_cases ht : T.term < t0
 ·have htn : T.turn t0 = T.newer_ t0 := by unfold PNode.turn; rw [if_pos ht]
  rw [htn] at hs
  have hr0 : (T.newer_ t0).role ≠ 1 := by show (0 : Nat) ≠ 1; omega
  rw [if_pos (.inl hr0)] at hs
  obtain ⟨rfl, rfl⟩ : l = [] ∧ T' = T.newer_ t0 := by simpa [eq_comm] using hs
  refine (Hear_new2 r d F (T.sub φ) ((T.sub φ).newer_ t0) 1048576 s [] fr T.id draw t0 na da nc 0 dc [(t0 : Int), (y : Int)] w h hn.rd offn rfl ht (by omega) (room_sub hφ hF) hmay (fun w1 F1 _ _ h1 => elects_no r d F1 _ 1048576 true fr T.id 2 na da 2 nc 0 dc w1 h1 (by show (0 : Nat) ≠ 1; omega))).mono ?_
  intro e w' hS
  exact hS.q rfl rfl
 ·have htn : T.turn t0 = T := by unfold PNode.turn; rw [if_neg ht]
  rw [htn] at hs
  have key : ∀ (Ms : List PMsg) (N' : PNode), (∀ w1, Ext NoB w w1 → Calls Tryz.prog 48 #[.pointer (some ⟨r, 0, none⟩), msgV fr T.id 2 (.slice na ([(t0 : Int), (y : Int)] : List Int).length nc) (.slice da 0 dc)] w1 (Sends r d F w1 Ms N' 1048576 s)) → Ms = l.map (QMsg.real φ) → N' = T'.sub φ →
    Calls Tryz.prog 19 #[.pointer (some ⟨r, 0, none⟩), msgV fr T.id 2 (.slice na 2 nc) (.slice da 0 dc), .int .i64 (draw : Int)] w (QEnds r d F φ w l T') := fun Ms N' hdo e1 e2 =>
   (Hear_same2 r d F (T.sub φ) N' 1048576 s Ms fr T.id draw t0 na da nc 0 dc [(t0 : Int), (y : Int)] w h hn.rd rfl (by show (t0 : Int) ≤ (T.term : Int); omega) hmay hdo).mono (fun e w' hS => hS.q e1 e2)
  by_cases hr : T.role = 1
  ·by_cases hno : t0 ≠ T.term ∨ y ≠ 1
   ·rw [if_pos (.inr hno)] at hs
    obtain ⟨rfl, hT⟩ : l = [] ∧ T' = T := by simpa [eq_comm] using hs
    exact key [] (T.sub φ) (fun w1 x1 => elects_not r d F (T.sub φ) 1048576 s fr T.id 2 t0 y na da nc 0 dc [(t0 : Int), (y : Int)] w1 (h.no x1) (hn.no x1).rd rfl hr (by rcases hno with h | h; exact .inl (by show (t0 : Int) ≠ (T.term : Int); omega); exact .inr (by omega))) rfl (by rw [hT])
   ·have hno2 : t0 = T.term ∧ y = 1 := by omega
    obtain ⟨rfl, rfl⟩ := hno2
    rw [if_neg (by rintro (h | h | h); exact h hr; exact h rfl; exact h rfl)] at hs
    have hv := hF.voted
    have hn5 := hF.n
    by_cases hm : mostOf T.n (T.adds fr).voted = true
    ·rw [if_pos hm] at hs
     obtain ⟨rfl, rfl⟩ : l = (tos T.n T.id).map (T.adds fr).wins.sendQ ∧ T' = (T.adds fr).wins := by simpa [eq_comm] using hs
     refine key ((tos T.n T.id).map (sendMsg ((T.adds fr).wins.sub φ))) ((T.adds fr).wins.sub φ) (fun w1 x1 => elects_yes r d fr F (T.sub φ) 1048576 s T.id 2 na da nc 0 dc [(T.term : Int), 1] _ _ w1 (h.no x1) (hn.no x1).rd rfl hr (by omega) hv (fun hf => absurd (hm.symm.trans hf) (by simp)) (fun _ w2 _ h2 => ?_)) (sub_sendAll φ _ _).symm rfl
     have hw := wins_any r d F ((T.sub φ).adds fr) 1048576 s w2 h2 (sub_lay hφ hF.len T.term (by have := hF.term; omega) [] (Nat.zero_le _)) (sub_ok hφ hF.terms)
     have e2 : ((T.sub φ).adds fr).wins = (T.adds fr).wins.sub φ := sub_wins hφ (T.adds fr)
     rw [e2] at hw
     exact hw
    ·rw [if_neg hm] at hs
     obtain ⟨rfl, rfl⟩ : l = [] ∧ T' = T.adds fr := by simpa [eq_comm] using hs
     exact key [] ((T.adds fr).sub φ) (fun w1 x1 => elects_yes r d fr F (T.sub φ) 1048576 s T.id 2 na da nc 0 dc [(T.term : Int), 1] _ _ w1 (h.no x1) (hn.no x1).rd rfl hr (by omega) hv (fun _ => ⟨rfl, rfl⟩) (fun ht => absurd ht hm)) rfl rfl
  ·rw [if_pos (.inl hr)] at hs
   obtain ⟨rfl, hT⟩ : l = [] ∧ T' = T := by simpa [eq_comm] using hs
   exact key [] (T.sub φ) (fun w1 x1 => elects_no r d F (T.sub φ) 1048576 s fr T.id 2 na da 2 nc 0 dc w1 (h.no x1) hr) rfl (by rw [hT])
end Go.Proofs.YtgglbholbkdgfaaGreatDoor
namespace Go.Proofs.YtgglbholbkdgfaaGreatDoor
open Go.RowKit
theorem Hear_Q4 {φ : List UInt8 → List UInt8} (hφ : Tok φ) (r d : Nat) (F : Nat → Prop) (T T' : PNode) (fr t0 y number draw : Nat) (l : List QMsg) (w : World) (h : NodeQ w r d F φ T) (hF : Fit T) (hfr : fr < T.n) (hne : fr ≠ T.id) (hb : t0 ≤ 1000000000 ∧ y ≤ 1 ∧ number ≤ 1000000000)
  (hs : (if (T.turn t0).role ≠ 2 ∨ t0 ≠ (T.turn t0).term ∨ T.log.length < number then some ([], T.turn t0)
   else if y = 0 then some ([((T.turn t0).backs fr number).sendQ fr], (T.turn t0).backs fr number)
   else if ((T.turn t0).heeds fr number).committed < ((T.turn t0).heeds fr number).commits.committed ∨ ((T.turn t0).heeds fr number).commits.next fr ≤ T.log.length then
    some ([((T.turn t0).heeds fr number).commits.sendQ fr], ((T.turn t0).heeds fr number).commits)
   else some ([], ((T.turn t0).heeds fr number).commits)) = some (l, T')) :
  HearsQ φ r d F ⟨fr, T.id, 4, [t0, y, number], []⟩ l T' draw w := by
 intro na da nc dc hn hd offn offd
 obtain ⟨s, h⟩ := h
 have hmay : ∀ w1, Ext NoB w w1 → Calls Tryz.prog 45 #[.pointer (some ⟨r, 0, none⟩), msgV fr (T.sub φ).id 4 (.slice na ([(t0 : Int), (y : Int), (number : Int)] : List Int).length nc) (.slice da 0 dc)] w1 (MayEnds true w1) := fun w1 x1 => by
  obtain ⟨D, ps, hN, _, _⟩ := (h.no x1).is
  exact may_4 r d F (T.sub φ) D ps fr na da nc dc [(t0 : Int), (y : Int), (number : Int)] w1 hN hfr hne (hn.no x1).rd (by show 3 ≤ _; omega) (by simp [goodB, okNum]; omega) y rfl (by omega)
 by_cases ht : T.term < t0
 ·have htn : T.turn t0 = T.newer_ t0 := by unfold PNode.turn; rw [if_pos ht]
  rw [htn] at hs
  have hr0 : (T.newer_ t0).role ≠ 2 := by show (0 : Nat) ≠ 2; omega
  rw [if_pos (.inl hr0)] at hs
  obtain ⟨rfl, rfl⟩ : l = [] ∧ T' = T.newer_ t0 := by simpa [eq_comm] using hs
  refine (Hear_new4 r d F (T.sub φ) ((T.sub φ).newer_ t0) 1048576 s [] fr T.id draw t0 na da nc 0 dc [(t0 : Int), (y : Int), (number : Int)] w h hn.rd offn rfl ht (by omega) (room_sub hφ hF) hmay (fun w1 F1 x1 hsub h1 => counts_no r d F1 _ 1048576 true fr T.id 4 number na da nc 0 dc [(t0 : Int), (y : Int), (number : Int)] w1 h1 (hn.ext x1 offn).rd rfl (by show (0 : Nat) ≠ 2; omega))).mono ?_
  intro e w' hS
  exact hS.q rfl rfl
 ·have htn : T.turn t0 = T := by unfold PNode.turn; rw [if_neg ht]
  rw [htn] at hs
  have key : ∀ (Ms : List PMsg) (N' : PNode), (∀ w1, Ext NoB w w1 → Calls Tryz.prog 50 #[.pointer (some ⟨r, 0, none⟩), msgV fr T.id 4 (.slice na ([(t0 : Int), (y : Int), (number : Int)] : List Int).length nc) (.slice da 0 dc)] w1 (Sends r d F w1 Ms N' 1048576 s)) → Ms = l.map (QMsg.real φ) → N' = T'.sub φ →
    Calls Tryz.prog 19 #[.pointer (some ⟨r, 0, none⟩), msgV fr T.id 4 (.slice na 3 nc) (.slice da 0 dc), .int .i64 (draw : Int)] w (QEnds r d F φ w l T') := fun Ms N' hdo e1 e2 =>
   (Hear_same4 r d F (T.sub φ) N' 1048576 s Ms fr T.id draw t0 na da nc 0 dc [(t0 : Int), (y : Int), (number : Int)] w h hn.rd rfl (by show (t0 : Int) ≤ (T.term : Int); omega) hmay hdo).mono (fun e w' hS => hS.q e1 e2)
  by_cases hr : T.role = 2
  ·by_cases hno : t0 ≠ T.term ∨ T.log.length < number
   ·rw [if_pos (.inr hno)] at hs
    obtain ⟨rfl, hT⟩ : l = [] ∧ T' = T := by simpa [eq_comm] using hs
    exact key [] (T.sub φ) (fun w1 x1 => counts_not r d F (T.sub φ) 1048576 s fr T.id 4 t0 y number na da nc 0 dc [(t0 : Int), (y : Int), (number : Int)] w1 (h.no x1) (hn.no x1).rd rfl hr (by
     rcases hno with h | h
     ·exact .inl (by show (t0 : Int) ≠ (T.term : Int); omega)
     ·exact .inr (by rw [sub_len]; exact h))) rfl (by rw [hT])
   ·have hno2 : t0 = T.term ∧ number ≤ T.log.length := by omega
    obtain ⟨rfl, hnum⟩ := hno2
    rw [if_neg (by rintro (h | h | h); exact h hr; exact h rfl; omega)] at hs
    have hn5 := hF.n
    have hnx := hF.next fr (by omega)
    have hlen := hF.len
    by_cases hy : y = 0
    ·subst hy
     rw [if_pos rfl] at hs
     obtain ⟨rfl, rfl⟩ : l = [(T.backs fr number).sendQ fr] ∧ T' = T.backs fr number := by simpa [eq_comm] using hs
     exact key [sendMsg ((T.backs fr number).sub φ) fr] ((T.backs fr number).sub φ) (fun w1 x1 => counts_back r d fr number F (T.sub φ) 1048576 s T.id 4 na da nc 0 dc [(T.term : Int), 0, (number : Int)] w1 (h.no x1) (hn.no x1).rd rfl hr (by rw [sub_len]; exact hnum) (by omega) ⟨by show T.mt fr ≤ _; omega, by show T.next fr ≤ _; omega⟩ (sub_ok hφ hF.terms)) (by rw [List.map_cons, sub_send]; rfl) rfl
    ·obtain rfl : y = 1 := by omega
     rw [if_neg hy] at hs
     have hcs : ((T.sub φ).heeds fr number).commits = (T.heeds fr number).commits.sub φ := sub_commits φ (T.heeds fr number)
     by_cases hg : (T.heeds fr number).committed < (T.heeds fr number).commits.committed ∨ (T.heeds fr number).commits.next fr ≤ T.log.length
     ·rw [if_pos hg] at hs
      obtain ⟨rfl, rfl⟩ : l = [(T.heeds fr number).commits.sendQ fr] ∧ T' = (T.heeds fr number).commits := by simpa [eq_comm] using hs
      refine key [sendMsg ((T.heeds fr number).commits.sub φ) fr] ((T.heeds fr number).commits.sub φ) (fun w1 x1 => ?_) (by rw [List.map_cons, sub_send]; rfl) rfl
      have hc := counts_heed r d fr number F (T.sub φ) 1048576 s T.id 4 na da nc 0 dc [(T.term : Int), 1, (number : Int)] [sendMsg ((T.heeds fr number).commits.sub φ) fr] w1 (h.no x1) (hn.no x1).rd rfl hr (by rw [sub_len]; exact hnum) (by omega) ⟨by show T.mt fr ≤ _; omega, by show T.next fr ≤ _; omega⟩ (sub_ok hφ hF.terms) (hnx.2.1 hr hfr) (fun _ => by rw [hcs]) (fun hnot => absurd (by rw [hcs, sub_len]; exact hg) hnot)
      rw [hcs] at hc
      exact hc
     ·rw [if_neg hg] at hs
      obtain ⟨rfl, rfl⟩ : l = [] ∧ T' = (T.heeds fr number).commits := by simpa [eq_comm] using hs
      refine key [] ((T.heeds fr number).commits.sub φ) (fun w1 x1 => ?_) rfl rfl
      have hc := counts_heed r d fr number F (T.sub φ) 1048576 s T.id 4 na da nc 0 dc [(T.term : Int), 1, (number : Int)] [] w1 (h.no x1) (hn.no x1).rd rfl hr (by rw [sub_len]; exact hnum) (by omega) ⟨by show T.mt fr ≤ _; omega, by show T.next fr ≤ _; omega⟩ (sub_ok hφ hF.terms) (hnx.2.1 hr hfr) (fun hyes => absurd (by rw [hcs, sub_len] at hyes; exact hyes) hg) (fun _ => rfl)
      rw [hcs] at hc
      exact hc
  ·rw [if_pos (.inl hr)] at hs
   obtain ⟨rfl, hT⟩ : l = [] ∧ T' = T := by simpa [eq_comm] using hs
   exact key [] (T.sub φ) (fun w1 x1 => counts_no r d F (T.sub φ) 1048576 s fr T.id 4 number na da nc 0 dc [(t0 : Int), (y : Int), (number : Int)] w1 (h.no x1) (hn.no x1).rd rfl hr) rfl (by rw [hT])
theorem Hear_Q3 {φ : List UInt8 → List UInt8} (hφ : Tok φ) (r d : Nat) (F : Nat → Prop) (T T' : PNode) (fr t0 a ta c3 draw : Nat) (es : List Ent) (l : List QMsg) (w : World) (h : NodeQ w r d F φ T) (hF : Fit T) (hfr : fr < T.n) (hne : fr ≠ T.id)
  (hb : t0 ≤ 1000000000 ∧ a ≤ 1000000000 ∧ ta ≤ 1000000000 ∧ c3 ≤ 1000000000 ∧ es.length ≤ 8) (hes : ∀ e ∈ es, e.1 ≤ 1000000000)
  (hs : (if t0 < (T.turn t0).term then some ([(T.turn t0).tookQ fr 0 0], T.turn t0)
   else if a ≤ T.log.length ∧ T.termOf a = ta then
    match toldL T.log a es with
    | none => none
    | some lg => if 97 < lg.length then none else some ([(T.turn t0).tookQ fr 1 (a + es.length)], (T.turn t0).told fr draw c3 (a + es.length) lg)
   else some ([(T.turn t0).tookQ fr 0 (min T.log.length (a - 1))], (T.turn t0).follows fr draw)) = some (l, T')) :
  HearsQ φ r d F ⟨fr, T.id, 3, [t0, a, ta, c3], es⟩ l T' draw w := by
 intro na da nc dc hn hd offn offd
 obtain ⟨s, h⟩ := h
 replace hn : Own w 3 1 (.slice na 4 nc) (intsV [(t0 : Int), (a : Int), (ta : Int), (c3 : Int)]) := hn
 have hrd := hn.rd
 obtain ⟨nb, noff, hnae, hcell⟩ := nums_cell (l := [(t0 : Int), (a : Int), (ta : Int), (c3 : Int)]) hrd (by show 0 < 4; omega)
 have hnbF : ¬ F nb := offn nb (by rw [hnae]; rfl)
 have hnbl : nb < w.heap.size := World.block_lt_of_cell? w _ (hcell 0 _ rfl)
 have hes2 : ∀ e ∈ es.map (subE φ), e.1 ≤ 1099511627776 ∧ e.2.length ≤ 65536 := fun e he => by
  obtain ⟨x, hx, rfl⟩ := List.mem_map.1 he
  have h1 := hes x hx
  have h2 := hφ.len x.2
  exact ⟨by show x.1 ≤ _; omega, by show (φ x.2).length ≤ _; omega⟩
 obtain ⟨b, hbF, hbl, hsent⟩ := sent_any F da dc nb (es.map (subE φ)) w hd offd hes2 (by rw [List.length_map]; omega) hnbF hnbl
 have hmay : ∀ w1, Ext NoB w w1 → Calls Tryz.prog 45 #[.pointer (some ⟨r, 0, none⟩), msgV fr (T.sub φ).id 3 (.slice na ([(t0 : Int), (a : Int), (ta : Int), (c3 : Int)] : List Int).length nc) (.slice da (entsB (es.map (subE φ))).length dc)] w1 (MayEnds true w1) := fun w1 x1 => by
  obtain ⟨D, ps, hN, _, _⟩ := (h.no x1).is
  exact may_ents r d F (T.sub φ) D ps fr na da nc _ dc b (es.map (subE φ)) [(t0 : Int), (a : Int), (ta : Int), (c3 : Int)] w1 hN hfr hne (hn.no x1).rd (by show 4 ≤ _; omega) (by simp [goodB, okNum]; omega) (fun w2 x2 => hsent w2 ((x1.of_no).trans x2.of_no))
 have hlenN := hF.len
 have hll : (es.map (subE φ)).length = es.length := List.length_map _
 -- what told does, in any node that has this log and this term
 have htold : ∀ (w1 : World) (F1 : Nat → Prop) (U : PNode) (s1 : Bool), Ext F w w1 → (∀ b, F1 b → F b ∨ w.heap.size ≤ b) → RaftIs w1 r d F1 (U.sub φ) 1048576 s1 → U.log = T.log → U.term = t0 → T.term ≤ t0 →
   ∀ (l1 : List QMsg) (T1 : PNode), (if a ≤ T.log.length ∧ T.termOf a = ta then
    match toldL T.log a es with
    | none => none
    | some lg => if 97 < lg.length then none else some ([U.tookQ fr 1 (a + es.length)], U.told fr draw c3 (a + es.length) lg)
   else some ([U.tookQ fr 0 (min T.log.length (a - 1))], U.follows fr draw)) = some (l1, T1) →
   Calls Tryz.prog 49 #[.pointer (some ⟨r, 0, none⟩), msgV fr T.id 3 (.slice na ([(t0 : Int), (a : Int), (ta : Int), (c3 : Int)] : List Int).length nc) (.slice da (entsB (es.map (subE φ))).length dc), .int .i64 (draw : Int)] w1 (Sends r d F1 w1 (l1.map (QMsg.real φ)) (T1.sub φ) 1048576 s1) := by
  intro w1 F1 U s1 x1 hsub h1 hlog hterm _ l1 T1 hs1
  have hsz := x1.size
  have hrd1 := (hn.ext x1 offn).rd
  have hoff1 : Off F1 (.slice na 4 nc) := fun g hg hF1 => by
   have hgl := hn.lt g hg
   rcases hsub g hF1 with h | h
   ·exact offn g hg h
   ·omega
  have hUt : (U.sub φ).termOf a = T.termOf a := by rw [sub_termOf]; unfold PNode.termOf PNode.terms; rw [hlog]
  by_cases hok : a ≤ T.log.length ∧ T.termOf a = ta
  ·rw [if_pos hok] at hs1
   cases htl : toldL T.log a es with
   | none => rw [htl] at hs1; simp at hs1
   | some lg =>
    rw [htl] at hs1
    by_cases h97 : 97 < lg.length
    ·simp [h97] at hs1
    ·simp only [h97, if_false] at hs1
     obtain ⟨rfl, rfl⟩ : l1 = [U.tookQ fr 1 (a + es.length)] ∧ T1 = U.told fr draw c3 (a + es.length) lg := by simpa [eq_comm] using hs1
     have hb2 := sub_bytes hφ lg
     have := told_ents r d F1 (U.sub φ) 1048576 s1 fr T.id draw na da nc _ dc c3 a b (es.map (subE φ)) (lg.map (subE φ)) [(t0 : Int), (a : Int), (ta : Int), (c3 : Int)] w1 h1 hrd1 hoff1 (by
       rw [hUt, hok.2]
       show _ = [((U.term : Nat) : Int), _, _, _]
       rw [hterm]) (by rw [sub_len, hlog]; exact hok.1) (by omega) (fun hF1 => by
        rcases hsub b hF1 with h | h
        ·exact hbF h
        ·omega) (by omega) (fun w2 x2 => hsent w2 (x1.next x2 (fun y hy hl => (hsub y hy).elim id (fun h => by omega)))) hes2 (by omega)
       (by show toldL (U.log.map (subE φ)) a _ = _; rw [hlog]; exact sub_toldL φ es T.log a lg htl) (by rw [List.length_map]; omega) (by omega)
     rw [hll] at this
     exact this
  ·rw [if_neg hok] at hs1
   obtain ⟨rfl, rfl⟩ : l1 = [U.tookQ fr 0 (min T.log.length (a - 1))] ∧ T1 = U.follows fr draw := by simpa [eq_comm] using hs1
   have := told_miss r d F1 (U.sub φ) 1048576 s1 fr T.id draw na da nc (entsB (es.map (subE φ))).length dc c3 a ta [(t0 : Int), (a : Int), (ta : Int), (c3 : Int)] w1 h1 hrd1 hoff1 (by
     show _ = [((U.term : Nat) : Int), _, _, _]
     rw [hterm]) (by rw [hUt, sub_len, hlog]; exact hok) (by omega) (by omega)
   rw [sub_len, hlog] at this
   exact this
 by_cases ht : T.term < t0
 ·have htn : T.turn t0 = T.newer_ t0 := by unfold PNode.turn; rw [if_pos ht]
  rw [htn, if_neg (by show ¬ t0 < t0; omega)] at hs
  refine (Hear_new3 r d F (T.sub φ) (T'.sub φ) 1048576 s (l.map (QMsg.real φ)) fr T.id draw t0 na da nc _ dc [(t0 : Int), (a : Int), (ta : Int), (c3 : Int)] w h hrd offn rfl ht (by omega) (room_sub hφ hF) hmay (fun w1 F1 x1 hsub h1 => htold w1 F1 (T.newer_ t0) true x1 hsub h1 rfl rfl (by omega) l T' hs)).mono ?_
  intro e w' hS
  exact hS.q rfl rfl
 ·have htn : T.turn t0 = T := by unfold PNode.turn; rw [if_neg ht]
  rw [htn] at hs
  by_cases hlt : t0 < T.term
  ·rw [if_pos hlt] at hs
   obtain ⟨rfl, hT⟩ : l = [T.tookQ fr 0 0] ∧ T' = T := by simpa [eq_comm] using hs
   refine (Hear_same3 r d F (T.sub φ) (T.sub φ) 1048576 s [tookMsg (T.sub φ) fr 0 0] fr T.id draw t0 na da nc _ dc [(t0 : Int), (a : Int), (ta : Int), (c3 : Int)] w h hrd rfl (by show (t0 : Int) ≤ (T.term : Int); omega) hmay (fun w1 x1 => ?_)).mono ?_
   ·exact (told_old r d F (T.sub φ) 1048576 s fr T.id draw t0 na da nc _ dc [(t0 : Int), (a : Int), (ta : Int), (c3 : Int)] w1 (h.no x1) (hn.no x1).rd rfl (by show (t0 : Int) < (T.term : Int); omega)).mono (fun e w'' hm => hm.sends (h.no x1))
   ·intro e w' hS
    exact hS.q rfl (by rw [hT])
  ·rw [if_neg hlt] at hs
   refine (Hear_same3 r d F (T.sub φ) (T'.sub φ) 1048576 s (l.map (QMsg.real φ)) fr T.id draw t0 na da nc _ dc [(t0 : Int), (a : Int), (ta : Int), (c3 : Int)] w h hrd rfl (by show (t0 : Int) ≤ (T.term : Int); omega) hmay (fun w1 x1 => htold w1 F T s x1.of_no (fun b hb => .inl hb) (h.no x1) rfl (by omega) (by omega) l T' hs)).mono ?_
   intro e w' hS
   exact hS.q rfl rfl
end Go.Proofs.YtgglbholbkdgfaaGreatDoor
namespace Go.Proofs.YtgglbholbkdgfaaGreatDoor
open Go.RowKit
theorem turn_id (T : PNode) (t0 : Nat) : (T.turn t0).log = T.log ∧ (T.turn t0).n = T.n ∧ (T.turn t0).id = T.id := by
 unfold PNode.turn
 split <;> exact ⟨rfl, rfl, rfl⟩
theorem Hear_Q {φ : List UInt8 → List UInt8} (hφ : Tok φ) (r d : Nat) (F : Nat → Prop) (T T' : PNode) (m : QMsg) (draw : Nat) (l : List QMsg) (w : World) (h : NodeQ w r d F φ T) (hs : T.hearP m draw = some (l, T')) : HearsQ φ r d F m l T' draw w := by
 obtain ⟨fr, tt, kd, nums, es⟩ := m
 unfold PNode.hearP at hs
 cases hf : T.fit with
 | false => rw [hf] at hs; simp at hs
 | true =>
 rw [hf] at hs
 have F' := fit_of hf
 by_cases hg : tt ≠ T.id ∨ T.n ≤ fr ∨ fr = T.id
 ·rw [if_pos (by simpa [or_assoc] using hg)] at hs
  cases hs
 ·rw [if_neg (by simpa [or_assoc] using hg)] at hs
  have hg' : tt = T.id ∧ fr < T.n ∧ fr ≠ T.id := by omega
  obtain ⟨rfl, hfr, hne⟩ := hg'
  clear hg
  obtain ⟨tl, tn, ti⟩ := turn_id T (nums.headD 0)
  split at hs
  ·next t0 i1 t2 e1 e2 =>
   obtain rfl : kd = 1 := e1
   obtain rfl : nums = [t0, i1, t2] := e2
   split at hs
   ·cases hs
   ·next hb =>
    have hbe : es = [] := Classical.byContradiction fun h => hb (.inr (.inr (.inr h)))
    subst hbe
    have hb' : t0 ≤ 1000000000 ∧ i1 ≤ 1000000000 ∧ t2 ≤ 1000000000 := by
     refine ⟨?_, ?_, ?_⟩ <;> refine Nat.le_of_not_lt fun h => hb ?_
     ·exact .inl h
     ·exact .inr (.inl h)
     ·exact .inr (.inr (.inl h))
    have := Hear_Q1 hφ r d F T fr t0 i1 t2 draw w h F' hfr hne hb'
    split at hs
    ·next hgr =>
     rw [if_pos hgr, if_pos hgr] at this
     obtain ⟨rfl, rfl⟩ : l = _ ∧ T' = _ := by simpa [eq_comm] using hs
     exact this
    ·next hgr =>
     rw [if_neg hgr, if_neg hgr] at this
     obtain ⟨rfl, rfl⟩ : l = _ ∧ T' = _ := by simpa [eq_comm] using hs
     exact this
  ·next t0 y e1 e2 =>
   obtain rfl : kd = 2 := e1
   obtain rfl : nums = [t0, y] := e2
   split at hs
   ·cases hs
   ·next hb =>
    have hbe : es = [] := Classical.byContradiction fun h => hb (.inr (.inr h))
    subst hbe
    have hb' : t0 ≤ 1000000000 ∧ y ≤ 1 := by
     refine ⟨?_, ?_⟩ <;> refine Nat.le_of_not_lt fun h => hb ?_
     ·exact .inl h
     ·exact .inr (.inl h)
    exact Hear_Q2 hφ r d F T T' fr t0 y draw l w h F' hfr hne hb' hs
  ·next t0 a ta c3 e1 e2 =>
   obtain rfl : kd = 3 := e1
   obtain rfl : nums = [t0, a, ta, c3] := e2
   split at hs
   ·cases hs
   ·next hb =>
    have hb' : t0 ≤ 1000000000 ∧ a ≤ 1000000000 ∧ ta ≤ 1000000000 ∧ c3 ≤ 1000000000 ∧ es.length ≤ 8 := by
     refine ⟨?_, ?_, ?_, ?_, ?_⟩ <;> refine Nat.le_of_not_lt fun h => hb ?_
     ·exact .inl h
     ·exact .inr (.inr (.inl h))
     ·exact .inr (.inr (.inr (.inl h)))
     ·exact .inr (.inr (.inr (.inr (.inl h))))
     ·exact .inr (.inr (.inr (.inr (.inr (.inl h)))))
    have hes : ∀ e ∈ es, e.1 ≤ 1000000000 := by
     have : ¬ (!(es.all fun e => decide (e.1 ≤ 1000000000))) = true := fun h => hb (.inr (.inr (.inr (.inr (.inr (.inr h))))))
     simpa using this
    exact Hear_Q3 hφ r d F T T' fr t0 a ta c3 draw es l w h F' hfr hne hb' hes hs
  ·next t0 y number e1 e2 =>
   obtain rfl : kd = 4 := e1
   obtain rfl : nums = [t0, y, number] := e2
   split at hs
   ·cases hs
   ·next hb =>
    have hbe : es = [] := Classical.byContradiction fun h => hb (.inr (.inr (.inr h)))
    subst hbe
    have hb' : t0 ≤ 1000000000 ∧ y ≤ 1 ∧ number ≤ 1000000000 := by
     refine ⟨?_, ?_, ?_⟩ <;> refine Nat.le_of_not_lt fun h => hb ?_
     ·exact .inl h
     ·exact .inr (.inl h)
     ·exact .inr (.inr (.inl h))
    exact Hear_Q4 hφ r d F T T' fr t0 y number draw l w h F' hfr hne hb' hs
  ·cases hs
def PropQ (r d : Nat) (F : Nat → Prop) (φ : List UInt8 → List UInt8) (w : World) (n : Nat) (l : List QMsg) (T' : PNode) (c : Nat) (e : Ending) (w' : World) : Prop :=
 ∃ v, e = .returned (.tuple #[.int .i64 n, v, .int .i64 c]) ∧ MsgsAre w' v (l.map (QMsg.real φ)) ∧ Fresh w v ∧ Ext F w w' ∧ NodeQ w' r d (Gr F w w') φ T'
theorem Propose_Q {φ : List UInt8 → List UInt8} (hφ : Tok φ) (r d : Nat) (F : Nat → Prop) (T T' : PNode) (p : List UInt8) (n c : Nat) (l : List QMsg) (pa : Option Addr) (pc : Nat) (w : World) (h : NodeQ w r d F φ T) (hs : T.proposeP p = some (n, l, T', c)) (hx : RdB w (.slice pa (φ p).length pc) (φ p)) (hoff : Off F (.slice pa (φ p).length pc)) (h1 : 1 ≤ (φ p).length) :
  Calls Tryz.prog 24 #[.pointer (some ⟨r, 0, none⟩), .slice pa (φ p).length pc] w (PropQ r d F φ w n l T' c) := by
 obtain ⟨s, h⟩ := h
 unfold PNode.proposeP at hs
 cases hf : T.fit with
 | false => rw [hf] at hs; simp at hs
 | true =>
 rw [hf] at hs
 have F' := fit_of hf
 simp only [Bool.not_true, Bool.false_eq_true, if_false] at hs
 by_cases hr : T.role = 2
 ·rw [if_neg (fun h => h hr)] at hs
  obtain ⟨rfl, rfl, rfl, rfl⟩ : n = T.log.length + 1 ∧ l = (tos T.n T.id).map (T.lays (T.term, p)).commits.sendQ ∧ T' = (T.lays (T.term, p)).commits ∧ c = 0 := by simpa [eq_comm] using hs
  have hlen := hφ.len p
  refine (Propose_leads r d F (T.sub φ) 1048576 s pa pc (φ p) w h hr hx hoff ⟨h1, by omega⟩ (sub_lay hφ F'.len T.term (by have := F'.term; omega) (φ p) hlen) (sub_ok hφ F'.terms) (fun t ht => ?_)).mono ?_
  ·have ht' : t < T.n := ht
   have h5 := F'.n
   have := F'.next t (by omega)
   exact ⟨this.2.1 hr ht', by show T.next t ≤ _; omega⟩
  ·rintro e w' ⟨v, rfl, hm, hfv, hx', hR⟩
   have e1 : ((T.sub φ).lays ((T.sub φ).term, φ p)).commits = (T.lays (T.term, p)).commits.sub φ := by
    rw [← sub_commits, sub_lays]
    rfl
   rw [e1] at hm hR
   refine ⟨v, ?_, ?_, hfv, hx', s, hR⟩
   ·rw [sub_len]; rfl
   ·rw [sub_sendAll]; exact hm
 ·rw [if_pos hr] at hs
  obtain ⟨rfl, rfl, hT, rfl⟩ : n = 0 ∧ l = [] ∧ T' = T ∧ c = 13 := by simpa [eq_comm] using hs
  rw [hT]
  refine (Propose_not r d F (T.sub φ) 1048576 s pa _ pc w h hr).mono ?_
  rintro e w' ⟨rfl, x⟩
  exact ⟨_, rfl, ⟨[], .nil, Own.nil _ _ _⟩, Fresh.nil _ _ _, x.of_no, s, (h.no x).wide (fun b hb => .inl hb) (fun b hb => hb.elim ((h.no x).lt b) (fun h => h.2))⟩
end Go.Proofs.YtgglbholbkdgfaaGreatDoor
namespace Go.Proofs.YtgglbholbkdgfaaGreatDoor
open Go.RowKit
def MsgNew (w w' : World) (m : List Value) (M : PMsg) : Prop := ∃ nv dv, m = [.int .i64 M.fr, .int .i64 M.tt, .int .i64 M.kd, nv, dv] ∧ Own w' 3 1 nv (intsV M.nums) ∧ Own w' 5 1 dv (bytesV M.data) ∧ Fresh w nv ∧ Fresh w dv
def MsgRd (w : World) (m : Value) (M : PMsg) : Prop := ∃ na nn nc da dn dc, m = msgV M.fr M.tt M.kd (.slice na nn nc) (.slice da dn dc) ∧ Rd w 1 (.slice na nn nc) (intsV M.nums) ∧ RdB w (.slice da dn dc) M.data ∧ M.nums.length ≤ 1000 ∧ M.data.length ≤ 10000000
set_option maxRecDepth 100000 in
set_option maxHeartbeats 4000000 in
theorem own_any (m : Value) (M : PMsg) (w : World) (h : MsgRd w m M) :
  Calls Tryz.prog 122 #[m] w fun e w' => ∃ l, e = .returned (.agg l.toArray) ∧ MsgNew w w' l M ∧ Ext NoB w w' := by
 obtain ⟨na, nn, nc, da, dn, dc, rfl, hn, hd, hl1, hl2⟩ := h
 obtain ⟨fr, tt, kd, nums, data⟩ := M
 dsimp only at hn hd hl1 hl2 ⊢
 have Hn := Lib.hid (fun (w' : World) (x : Ext NoB w w') => cloneInts_any _ nums w' (hn.no x) (by omega))
 have Hd := Lib.hid (fun (w' : World) (x : Ext NoB w w') => cloneBytes_any _ data w' (Rd.no hd x) (by omega))
 clear hn hd hl1 hl2
 unfold msgV
 go_enter Tryz.func122, Tryz.ntmps122
 go_wp2_with fail
 obtain ⟨w1, B, e1, e2, x1, b1, hs1⟩ := alloc_facts w (.cells #[.int .i64 fr, .int .i64 tt, .int .i64 kd, .slice na nn nc, .slice da dn dc] 37)
 rw [e1, e2]
 obtain ⟨w2, C, q1, q2, x2, b2, hs2⟩ := alloc_facts w1 (.cells #[.int .i64 0, .int .i64 0, .int .i64 0, .slice none 0 0, .slice none 0 0] 37)
 have hC : B + 1 = C := by omega
 rw [q1, hC]
 have hBC : B ≠ C := by omega
 have b1' := x2.blk b1 (fun h => h)
 have c3 : w2.cell? ⟨B, 3, none⟩ = some (.slice na nn nc) := by rw [cell_of_blk b1']; rfl
 have c4 : w2.cell? ⟨B, 4, none⟩ = some (.slice da dn dc) := by rw [cell_of_blk b1']; rfl
 have Hx := Lib.hid (x1.trans x2)
 have Hb1 := Lib.hid b1'
 have Hb2 := Lib.hid b2
 have HB := Lib.hid (And.intro e2 (And.intro hs1 (And.intro hs2 hC)))
 clear e1 e2 x1 b1 hs1 q1 q2 x2 b2 hs2 b1' hC
 refine wp_region_N (fun w' => w'.cell? ⟨B, 3, none⟩ = some (.slice na nn nc) ∧ w'.cell? ⟨B, 4, none⟩ = some (.slice da dn dc)) 7 (by kernel_rfl) ?_
 have hSd : w2.drew.cell? ⟨B, 3, none⟩ = some (.slice na nn nc) ∧ w2.drew.cell? ⟨B, 4, none⟩ = some (.slice da dn dc) := ⟨c3, c4⟩
 have xd : Ext NoB w2 w2.drew := (Ext.refl _ w2).drew
 generalize w2.drew = wd at hSd xd ⊢
 refine wpAnyN_free 0 (v := ?_) (by kernel_rfl) rfl (fun _ _ _ h => h) hSd (by rfl) ?_ ?_; rotate_left; (focus (intro w; go_simp; try with_reducible rfl)); (try simp only [Act.put]); (try simp only [List.setIfInBounds_toArray, List.set_cons_zero, List.set_cons_succ])
 refine wpAnyN_take 1 (v := ?_) (by kernel_rfl) rfl (fun _ _ _ h => h) hSd (by rfl) ?_ ?_; rotate_left; (focus (intro w hSw; (try dsimp only at hSw); go_simp; try with_reducible rfl)); (try simp only [Act.put]); (try simp only [List.setIfInBounds_toArray, List.set_cons_zero, List.set_cons_succ])
 refine wpAnyN_free 3 (v := ?_) (by kernel_rfl) rfl (fun _ _ _ h => h) hSd (by rfl) ?_ ?_; rotate_left; (focus (intro w; go_simp; try with_reducible rfl)); (try simp only [Act.put]); (try simp only [List.setIfInBounds_toArray, List.set_cons_zero, List.set_cons_succ])
 refine wpAnyN_take 4 (v := ?_) (by kernel_rfl) rfl (fun _ _ _ h => h) hSd (by rfl) ?_ ?_; rotate_left; (focus (intro w hSw; (try dsimp only at hSw); go_simp; try with_reducible rfl)); (try simp only [Act.put]); (try simp only [List.setIfInBounds_toArray, List.set_cons_zero, List.set_cons_succ])
 refine wpAnyN_one 2 (by kernel_rfl) (by simp only [List.getElem?_toArray, List.getElem?_cons_succ, List.getElem?_cons_zero] <;> rfl) (by rfl) (fun K hK => ?_)
 go_simp
 refine (Hn.out wd (Hx.out.trans xd)).mono ?_; rintro e w3 ⟨v3, rfl, o3, f3, x3⟩
 obtain ⟨a3, n3, k3, rfl, _⟩ := o3.rd
 have hS3 := And.intro (x3.cell hSd.1 (fun h => h)) (x3.cell hSd.2 (fun h => h))
 go_wp2_with fail
 refine hK.out _ _ hS3 (fun hSd => ?_)
 clear hK K hSd
 have hSd := hS3
 (try simp only [Act.put]); (try simp only [List.setIfInBounds_toArray, List.set_cons_zero, List.set_cons_succ])
 refine wpAnyN_free 6 (v := ?_) (by kernel_rfl) rfl (fun _ _ _ h => h) hSd (by rfl) ?_ ?_; rotate_left; (focus (intro w; go_simp; try with_reducible rfl)); (try simp only [Act.put]); (try simp only [List.setIfInBounds_toArray, List.set_cons_zero, List.set_cons_succ])
 refine wpAnyN_one 5 (by kernel_rfl) (by simp only [List.getElem?_toArray, List.getElem?_cons_succ, List.getElem?_cons_zero] <;> rfl) (by rfl) (fun K hK => ?_)
 go_simp
 refine (Hd.out w3 ((Hx.out.trans xd).trans x3)).mono ?_; rintro e w4 ⟨v4, rfl, o4, f4, x4⟩
 obtain ⟨a4, n4, k4, rfl, _⟩ := o4.rd
 have hS4 := And.intro (x4.cell hSd.1 (fun h => h)) (x4.cell hSd.2 (fun h => h))
 go_wp2_with fail
 refine hK.out _ _ hS4 (fun hSd => ?_)
 clear hK K hSd
 (try simp only [Act.put]); (try simp only [List.setIfInBounds_toArray, List.set_cons_zero, List.set_cons_succ])
 refine wpAnyN_tail (by rfl) (by decide) (by kernel_rfl) (by kernel_rfl) ?_
 simp only [List.drop_succ_cons, List.drop_zero]
 have B4 := x4.blk (x3.blk (xd.blk Hb1.out (fun h => h)) (fun h => h)) (fun h => h)
 have C4 := x4.blk (x3.blk (xd.blk Hb2.out (fun h => h)) (fun h => h)) (fun h => h)
 have Ho3 := Lib.hid (o3.no x4)
 have Ho4 := Lib.hid o4
 have Hf := Lib.hid (And.intro f3 f4)
 have Hx4 := Lib.hid (((Hx.out.trans xd).trans x3).trans x4)
 have Hsz := Lib.hid (And.intro (Hx.out.trans xd).size x3.size)
 have Hsz2 := Lib.hid (show B < wd.heap.size ∧ C < wd.heap.size from ⟨lt_of_blk (xd.blk Hb1.out (fun h => h)), lt_of_blk (xd.blk Hb2.out (fun h => h))⟩)
 clear o3 o4 f3 f4 x4 x3 xd hS4 hS3 hSd c3 c4
 have fB3 : w4.frozen? ⟨B, 3, none⟩ = false := frozen_of_blk B4 3
 have fB4 : w4.frozen? ⟨B, 4, none⟩ = false := frozen_of_blk B4 4
 have fC0 : w4.frozen? ⟨C, 0, none⟩ = false := frozen_of_blk C4 0
 have fC1 : w4.frozen? ⟨C, 1, none⟩ = false := frozen_of_blk C4 1
 have fC2 : w4.frozen? ⟨C, 2, none⟩ = false := frozen_of_blk C4 2
 have fC3 : w4.frozen? ⟨C, 3, none⟩ = false := frozen_of_blk C4 3
 have fC4 : w4.frozen? ⟨C, 4, none⟩ = false := frozen_of_blk C4 4
 have b0 : w4.cell? ⟨B, 0, none⟩ = some (.int .i64 fr) := by rw [cell_of_blk B4]; rfl
 have b1 : w4.cell? ⟨B, 1, none⟩ = some (.int .i64 tt) := by rw [cell_of_blk B4]; rfl
 have b2 : w4.cell? ⟨B, 2, none⟩ = some (.int .i64 kd) := by rw [cell_of_blk B4]; rfl
 have b3 : w4.cell? ⟨B, 3, none⟩ = some (.slice na nn nc) := by rw [cell_of_blk B4]; rfl
 have b4 : w4.cell? ⟨B, 4, none⟩ = some (.slice da dn dc) := by rw [cell_of_blk B4]; rfl
 have k0 : w4.cell? ⟨C, 0, none⟩ = some (.int .i64 0) := by rw [cell_of_blk C4]; rfl
 have k1 : w4.cell? ⟨C, 1, none⟩ = some (.int .i64 0) := by rw [cell_of_blk C4]; rfl
 have k2 : w4.cell? ⟨C, 2, none⟩ = some (.int .i64 0) := by rw [cell_of_blk C4]; rfl
 have k3' : w4.cell? ⟨C, 3, none⟩ = some (.slice none 0 0) := by rw [cell_of_blk C4]; rfl
 have k4' : w4.cell? ⟨C, 4, none⟩ = some (.slice none 0 0) := by rw [cell_of_blk C4]; rfl
 have hCB : C ≠ B := fun h => hBC h.symm
 have HC4 := Lib.hid C4
 clear B4 C4
 go_wp2_with fail
 have kR := blk_setCell (blk_setCell (blk_setCell (blk_setCell (blk_setCell (blk_setCell_ne (p := ⟨B, 4, none⟩) (blk_setCell_ne (p := ⟨B, 3, none⟩) HC4.out hCB (.slice a3 n3 k3)) hCB (.slice a4 n4 k4)) 0 (.int .i64 fr)) 1 (.int .i64 tt)) 2 (.int .i64 kd)) 3 (.slice a3 n3 k3)) 4 (.slice a4 n4 k4)
 have x5 := ((((((((Ext.refl (fun b => b = B ∨ b = C) w4).setCell (p := ⟨B, 3, none⟩) (.inl (.inl rfl)) (.slice a3 n3 k3)).setCell (p := ⟨B, 4, none⟩) (.inl (.inl rfl)) (.slice a4 n4 k4)).setCell (p := ⟨C, 0, none⟩) (.inl (.inr rfl)) (.int .i64 fr)).setCell (p := ⟨C, 1, none⟩) (.inl (.inr rfl)) (.int .i64 tt)).setCell (p := ⟨C, 2, none⟩) (.inl (.inr rfl)) (.int .i64 kd)).setCell (p := ⟨C, 3, none⟩) (.inl (.inr rfl)) (.slice a3 n3 k3)).setCell (p := ⟨C, 4, none⟩) (.inl (.inr rfl)) (.slice a4 n4 k4))
 generalize (((((((w4.setCell ⟨B, 3, none⟩ (.slice a3 n3 k3)).setCell ⟨B, 4, none⟩ (.slice a4 n4 k4)).setCell ⟨C, 0, none⟩ (.int .i64 fr)).setCell ⟨C, 1, none⟩ (.int .i64 tt)).setCell ⟨C, 2, none⟩ (.int .i64 kd)).setCell ⟨C, 3, none⟩ (.slice a3 n3 k3)).setCell ⟨C, 4, none⟩ (.slice a4 n4 k4)) = w5 at kR x5 ⊢
 have xE : Ext NoB w w4 := Hx4.out
 have hB := HB.out
 have h2 := Hsz2.out
 have hf1 := Hf.out.1
 have hf2 := Hf.out.2
 have hs := Hsz.out
 refine bodyPost_ret (results_cell_row rfl _ _ C _ #[.int .i64 fr, .int .i64 tt, .int .i64 kd, .slice a3 n3 k3, .slice a4 n4 k4] _ _ rfl kR Tryz.underlying37 rfl (by kernel_rfl)) rfl ⟨[.int .i64 fr, .int .i64 tt, .int .i64 kd, .slice a3 n3 k3, .slice a4 n4 k4], rfl, ⟨_, _, rfl, Ho3.out.ext x5 (fun g hg hb => ?_), Ho4.out.ext x5 (fun g hg hb => ?_), fun g hg => ?_, fun g hg => ?_⟩, xE.next x5 (fun b hb hl => ?_)⟩
 ·have := hf1 g hg
  have hb' : g = B ∨ g = C := hb
  omega
 ·have := hf2 g hg
  have hb' : g = B ∨ g = C := hb
  omega
 ·have := hf1 g hg
  omega
 ·have := hf2 g hg
  omega
 ·have hb' : b = B ∨ b = C := hb
  omega
end Go.Proofs.YtgglbholbkdgfaaGreatDoor
namespace Go.Proofs.YtgglbholbkdgfaaGreatDoor
open Go.RowKit
def MsgF (w : World) (F : Nat → Prop) (m : List Value) (M : PMsg) : Prop := ∃ nv dv, m = [.int .i64 M.fr, .int .i64 M.tt, .int .i64 M.kd, nv, dv] ∧ Own w 3 1 nv (intsV M.nums) ∧ Own w 5 1 dv (bytesV M.data) ∧ (∀ g, nv.ownBlock = some g → F g) ∧ (∀ g, dv.ownBlock = some g → F g) ∧ M.nums.length ≤ 1000 ∧ M.data.length ≤ 10000000
theorem MsgF.is {w : World} {F : Nat → Prop} {m : List Value} {M : PMsg} (h : MsgF w F m M) : MsgIs w m M := by
 obtain ⟨nv, dv, h1, h2, h3, _⟩ := h
 exact ⟨nv, dv, h1, h2, h3⟩
theorem MsgF.mono {w : World} {F G : Nat → Prop} {m : List Value} {M : PMsg} (h : MsgF w F m M) (hs : ∀ b, F b → G b) : MsgF w G m M := by
 obtain ⟨nv, dv, h1, h2, h3, h4, h5, h6⟩ := h
 exact ⟨nv, dv, h1, h2, h3, fun g hg => hs g (h4 g hg), fun g hg => hs g (h5 g hg), h6⟩
theorem MsgF.ext {w w' : World} {F G : Nat → Prop} {m : List Value} {M : PMsg} (h : MsgF w F m M) (x : Ext G w w') (hG : ∀ g, G g → F g → ∃ cs t fr, w.heap[g]? = some (.cells cs t fr) ∧ t ≠ 3 ∧ t ≠ 5) : MsgF w' F m M := by
 obtain ⟨nv, dv, h1, h2, h3, h4, h5, h6⟩ := h
 refine ⟨nv, dv, h1, h2.ext x (fun g hg hb => ?_), h3.ext x (fun g hg hb => ?_), h4, h5, h6⟩
 ·obtain ⟨cs, t, fr, hb, ht, _⟩ := hG g hb (h4 g hg)
  exact h2.ne_blk hb ht g hg rfl
 ·obtain ⟨cs, t, fr, hb, _, ht⟩ := hG g hb (h5 g hg)
  exact h3.ne_blk hb ht g hg rfl
def RowsF (w : World) (F : Nat → Prop) : List (List Value) → List PMsg → Prop
 | [], [] => True
 | m :: ms, M :: Ms => MsgF w F m M ∧ RowsF w F ms Ms
 | _, _ => False
theorem RowsF.mono {w : World} {F G : Nat → Prop} (hs : ∀ b, F b → G b) : ∀ {ms : List (List Value)} {Ms : List PMsg}, RowsF w F ms Ms → RowsF w G ms Ms
 | [], [], _ => trivial
 | _ :: _, _ :: _, h => ⟨h.1.mono hs, RowsF.mono hs h.2⟩
theorem RowsF.ext {w w' : World} {F G : Nat → Prop} (x : Ext G w w') (hG : ∀ g, G g → F g → ∃ cs t fr, w.heap[g]? = some (.cells cs t fr) ∧ t ≠ 3 ∧ t ≠ 5) : ∀ {ms : List (List Value)} {Ms : List PMsg}, RowsF w F ms Ms → RowsF w' F ms Ms
 | [], [], _ => trivial
 | _ :: _, _ :: _, h => ⟨h.1.ext x hG, RowsF.ext x hG h.2⟩
theorem RowsF.snoc {w : World} {F : Nat → Prop} {m : List Value} {M : PMsg} (hm : MsgF w F m M) : ∀ {ms : List (List Value)} {Ms : List PMsg}, RowsF w F ms Ms → RowsF w F (ms ++ [m]) (Ms ++ [M])
 | [], [], _ => ⟨hm, trivial⟩
 | _ :: _, _ :: _, h => ⟨h.1, RowsF.snoc hm h.2⟩
theorem RowsF.len {w : World} {F : Nat → Prop} : ∀ {ms : List (List Value)} {Ms : List PMsg}, RowsF w F ms Ms → ms.flatten.length = Ms.length * 5 ∧ ms.length = Ms.length
 | [], [], _ => ⟨rfl, rfl⟩
 | m :: ms, M :: Ms, h => by
  have h1 := h.1.is.one.1
  have h2 := RowsF.len h.2
  simp only [List.flatten_cons, List.length_append, List.length_cons, h1, h2.1, h2.2, and_true]
  omega
def RowAt (w : World) (F : Nat → Prop) (v : Value) (Ms : List PMsg) : Prop := ∃ ms, RowsF w F ms Ms ∧ Own w 37 5 v ms.flatten ∧ ∀ g, v.ownBlock = some g → F g
theorem RowAt.shape {w : World} {F : Nat → Prop} {v : Value} {Ms : List PMsg} (h : RowAt w F v Ms) : ∃ a c, v = .slice a Ms.length c := by
 obtain ⟨ms, h1, h2, _⟩ := h
 obtain ⟨a, n, c, rfl, hl, _⟩ := h2.rd
 have := h1.len.1
 have hn : n = Ms.length := by omega
 exact ⟨a, c, by rw [hn]⟩
theorem RowAt.off {w w' : World} {F G : Nat → Prop} {v : Value} {Ms : List PMsg} (h : RowAt w F v Ms) (x : Ext G w w') (hG : ∀ b, F b → ¬ G b) : RowAt w' F v Ms := by
 obtain ⟨ms, h1, h2, h3⟩ := h
 exact ⟨ms, h1.ext x (fun g hg hf => (hG g hf hg).elim), h2.ext x (fun g hg hb => hG g (h3 g hg) hb), h3⟩
theorem RowAt.mono {w : World} {F G : Nat → Prop} {v : Value} {Ms : List PMsg} (h : RowAt w F v Ms) (hs : ∀ b, F b → G b) : RowAt w G v Ms := by
 obtain ⟨ms, h1, h2, h3⟩ := h
 exact ⟨ms, h1.mono hs, h2, fun g hg => hs g (h3 g hg)⟩
set_option maxRecDepth 100000 in
theorem full_no (p : Addr) (ra : Option Addr) (rn rc : Nat) (w : World) (hp : p.spot = none) (hc : w.cell? ⟨p.block, p.off, none⟩ = some (.slice ra rn rc)) (hn : rn < 4096) :
  Calls Tryz.prog 121 #[.pointer (some p)] w fun e w' => e = .returned (.bool false) ∧ w' = w := by
 obtain ⟨b, o, s⟩ := p
 obtain rfl : s = none := hp
 dsimp only at hc
 have h1 : ¬ (4096 : Int) ≤ (rn : Int) := by omega
 go_enter Tryz.func121, Tryz.ntmps121
 go_wp2_with fail
 go_ret
 exact ⟨rfl, rfl⟩
def SendEnds (g : Nat) (F : Nat → Prop) (gs : Array Value) (t : TypeId) (rv0 : Value) (Ms : List PMsg) (w : World) (e : Ending) (w' : World) : Prop :=
 e = .returned (.bool true) ∧ Ext (fun b => b = g ∨ rv0.ownBlock = some b) w w' ∧ ∃ rv, w'.heap[g]? = some (.cells (gs.setIfInBounds 6 rv) t (0, 0)) ∧ RowAt w' (Gr F w w') rv Ms ∧ ∀ b, rv.ownBlock = some b → rv0.ownBlock = some b ∨ w.heap.size ≤ b
set_option maxRecDepth 100000 in
set_option maxHeartbeats 4000000 in
theorem Send_any (g : Nat) (F : Nat → Prop) (gs : Array Value) (t : TypeId) (rv m : Value) (Ms : List PMsg) (M : PMsg) (w : World) (hb : w.heap[g]? = some (.cells gs t (0, 0))) (ht : t ≠ 37 ∧ t ≠ 3 ∧ t ≠ 5) (hrv : gs[6]? = some rv) (hg : F g) (hF : ∀ b, F b → b < w.heap.size) (hR : RowAt w F rv Ms) (hm : MsgRd w m M) (hl : Ms.length < 4096) :
  Calls Tryz.prog 92 #[.pointer (some ⟨g, 6, none⟩), m] w (SendEnds g F gs t rv (Ms ++ [M]) w) := by
 obtain ⟨ra, rc, rfl⟩ := hR.shape
 obtain ⟨ms, hms, hown, hrF⟩ := hR
 have hms5 := hms.len.1
 obtain ⟨rn, hrn⟩ : ∃ rn, Ms.length = rn := ⟨_, rfl⟩
 have Hrn := Lib.hid hrn
 rw [hrn] at hrv hown hrF hl hms5
 have c6 : w.cell? ⟨g, 6, none⟩ = some (.slice ra rn rc) := by rw [cell_of_blk hb]; exact hrv
 have Hm := Lib.hid (fun (w' : World) (x : Ext NoB w w') => own_any m M w' (by
  obtain ⟨na, nn, nc, da, dn, dc, h1, h2, h3, h4⟩ := hm
  exact ⟨na, nn, nc, da, dn, dc, h1, h2.no x, Rd.no h3 x, h4⟩))
 have HM := Lib.hid hm
 obtain ⟨na, nn, nc, da, dn, dc, hmv, _, _, hl1, hl2⟩ := hm
 have Hl12 := Lib.hid (And.intro hl1 hl2)
 clear hl1 hl2 HM
 rw [hmv] at Hm ⊢
 unfold msgV at Hm ⊢
 have Hb := Lib.hid hb
 have Ht := Lib.hid ht
 have HF := Lib.hid (And.intro hg hF)
 have Hms := Lib.hid (And.intro hms (And.intro hown (And.intro hrF hms5)))
 have hgw := lt_of_blk hb
 clear hb ht hg hF hms hown hrF hmv hms5
 go_enter Tryz.func92, Tryz.ntmps92
 go_wp2_with fail
 obtain ⟨w1, B, e1, e2, x1, b1, hs1⟩ := alloc_facts w (.cells #[.int .i64 M.fr, .int .i64 M.tt, .int .i64 M.kd, .slice na nn nc, .slice da dn dc] 37)
 rw [e1, e2]
 have d6 := x1.cell c6 (fun h => h)
 have hgB : g ≠ B := by omega
 have Hx1 := Lib.hid x1
 have Hb1 := Lib.hid b1
 have HB := Lib.hid e2
 clear e1 e2 x1 b1 hs1 c6
 refine (full_no ⟨g, 6, none⟩ ra rn rc w1 rfl d6 hl).mono ?_; rintro e w2 ⟨rfl, rfl⟩
 go_wp2_with fail
 have c0 : w2.cell? ⟨B, 0, none⟩ = some (.int .i64 M.fr) := by rw [cell_of_blk Hb1.out]; rfl
 have c1 : w2.cell? ⟨B, 1, none⟩ = some (.int .i64 M.tt) := by rw [cell_of_blk Hb1.out]; rfl
 have c2 : w2.cell? ⟨B, 2, none⟩ = some (.int .i64 M.kd) := by rw [cell_of_blk Hb1.out]; rfl
 have c3 : w2.cell? ⟨B, 3, none⟩ = some (.slice na nn nc) := by rw [cell_of_blk Hb1.out]; rfl
 have c4 : w2.cell? ⟨B, 4, none⟩ = some (.slice da dn dc) := by rw [cell_of_blk Hb1.out]; rfl
 refine wp_region_N (fun w' => w'.cell? ⟨g, 6, none⟩ = some (.slice ra rn rc) ∧ w'.cell? ⟨B, 0, none⟩ = some (.int .i64 M.fr) ∧ w'.cell? ⟨B, 1, none⟩ = some (.int .i64 M.tt) ∧ w'.cell? ⟨B, 2, none⟩ = some (.int .i64 M.kd) ∧ w'.cell? ⟨B, 3, none⟩ = some (.slice na nn nc) ∧ w'.cell? ⟨B, 4, none⟩ = some (.slice da dn dc)) 8 (by kernel_rfl) ?_
 have hSd : w2.drew.cell? ⟨g, 6, none⟩ = some (.slice ra rn rc) ∧ w2.drew.cell? ⟨B, 0, none⟩ = some (.int .i64 M.fr) ∧ w2.drew.cell? ⟨B, 1, none⟩ = some (.int .i64 M.tt) ∧ w2.drew.cell? ⟨B, 2, none⟩ = some (.int .i64 M.kd) ∧ w2.drew.cell? ⟨B, 3, none⟩ = some (.slice na nn nc) ∧ w2.drew.cell? ⟨B, 4, none⟩ = some (.slice da dn dc) := ⟨d6, c0, c1, c2, c3, c4⟩
 have xd : Ext NoB w2 w2.drew := (Ext.refl _ w2).drew
 generalize w2.drew = wd at hSd xd ⊢
 clear d6 c0 c1 c2 c3 c4
 refine wpAnyN_free 0 (v := ?_) (by kernel_rfl) rfl (fun _ _ _ h => h) hSd (by rfl) ?_ ?_; rotate_left; (focus (intro w; go_simp; try with_reducible rfl)); (try simp only [Act.put]); (try simp only [List.setIfInBounds_toArray, List.set_cons_zero, List.set_cons_succ])
 refine wpAnyN_free 1 (v := ?_) (by kernel_rfl) rfl (fun _ _ _ h => h) hSd (by rfl) ?_ ?_; rotate_left; (focus (intro w; go_simp; try with_reducible rfl)); (try simp only [Act.put]); (try simp only [List.setIfInBounds_toArray, List.set_cons_zero, List.set_cons_succ])
 refine wpAnyN_free 2 (v := ?_) (by kernel_rfl) rfl (fun _ _ _ h => h) hSd (by rfl) ?_ ?_; rotate_left; (focus (intro w; go_simp; try with_reducible rfl)); (try simp only [Act.put]); (try simp only [List.setIfInBounds_toArray, List.set_cons_zero, List.set_cons_succ])
 refine wpAnyN_free 3 (v := ?_) (by kernel_rfl) rfl (fun _ _ _ h => h) hSd (by rfl) ?_ ?_; rotate_left; (focus (intro w; go_simp; try with_reducible rfl)); (try simp only [Act.put]); (try simp only [List.setIfInBounds_toArray, List.set_cons_zero, List.set_cons_succ])
 refine wpAnyN_take 4 (v := ?_) (by kernel_rfl) rfl (fun _ _ _ h => h) hSd (by rfl) ?_ ?_; rotate_left; (focus (intro w hSw; (try dsimp only at hSw); go_simp; try with_reducible rfl)); (try simp only [Act.put]); (try simp only [List.setIfInBounds_toArray, List.set_cons_zero, List.set_cons_succ])
 refine wpAnyN_take 5 (v := ?_) (by kernel_rfl) rfl (fun _ _ _ h => h) hSd (by rfl) ?_ ?_; rotate_left; (focus (intro w hSw; (try dsimp only at hSw); go_simp; try with_reducible rfl)); (try simp only [Act.put]); (try simp only [List.setIfInBounds_toArray, List.set_cons_zero, List.set_cons_succ])
 refine wpAnyN_one 6 (by kernel_rfl) (by simp only [List.getElem?_toArray, List.getElem?_cons_succ, List.getElem?_cons_zero] <;> rfl) (by rfl) (fun K hK => ?_)
 go_simp
 refine (Hm.out wd (Hx1.out.trans xd)).mono ?_; rintro e w3 ⟨l3, rfl, m3, x3⟩
 obtain ⟨v3, u3, rfl, o3, p3, f3, g3⟩ := m3
 obtain ⟨a3, n3, k3, rfl, _⟩ := o3.rd
 obtain ⟨a4, n4, k4, rfl, _⟩ := p3.rd
 have hS3 := (fun {P : World → Prop} (h : ∀ p v, wd.cell? p = some v → w3.cell? p = some v) => And.intro (h _ _ hSd.1) (And.intro (h _ _ hSd.2.1) (And.intro (h _ _ hSd.2.2.1) (And.intro (h _ _ hSd.2.2.2.1) (And.intro (h _ _ hSd.2.2.2.2.1) (h _ _ hSd.2.2.2.2.2)))))) (P := fun _ => True) (fun p v h => x3.cell h (fun h => h))
 go_wp2_with fail
 refine hK.out _ _ hS3 (fun hSd => ?_)
 clear hK K hSd
 have hSd := hS3
 (try simp only [Act.put]); (try simp only [List.setIfInBounds_toArray, List.set_cons_zero, List.set_cons_succ])
 refine wpAnyN_one 7 (by kernel_rfl) (by simp only [List.getElem?_toArray, List.getElem?_cons_succ, List.getElem?_cons_zero] <;> rfl) (by rfl) (fun K hK => ?_)
 go_simp
 obtain ⟨w4, C, q1, q2, x4, b4, hs4⟩ := alloc_facts w3 (.cells #[.int .i64 M.fr, .int .i64 M.tt, .int .i64 M.kd, .slice a3 n3 k3, .slice a4 n4 k4] 37)
 rw [q1, q2]
 have hS4 := And.intro (x4.cell hSd.1 (fun h => h)) (And.intro (x4.cell hSd.2.1 (fun h => h)) (And.intro (x4.cell hSd.2.2.1 (fun h => h)) (And.intro (x4.cell hSd.2.2.2.1 (fun h => h)) (And.intro (x4.cell hSd.2.2.2.2.1 (fun h => h)) (x4.cell hSd.2.2.2.2.2 (fun h => h))))))
 refine hK.out _ _ hS4 (fun hSd => ?_)
 clear hK K hSd
 (try simp only [Act.put]); (try simp only [List.setIfInBounds_toArray, List.set_cons_zero, List.set_cons_succ])
 refine wpAnyN_tail (by rfl) (by decide) (by kernel_rfl) (by kernel_rfl) ?_
 simp only [List.drop_succ_cons, List.drop_zero]
 have hone : ∀ u ∈ [Value.int .i64 M.fr, .int .i64 M.tt, .int .i64 M.kd, .slice a3 n3 k3, .slice a4 n4 k4], u.oneCell' = true := by simp [Value.oneCell']
 have Hsrc := Lib.hid (Src.row (P := Tryz.prog) unMsgs C 5 [.int .i64 M.fr, .int .i64 M.tt, .int .i64 M.kd, .slice a3 n3 k3, .slice a4 n4 k4] 37 (0, 0) b4 rfl hone)
 have xE := ((Hx1.out.trans xd).trans x3).trans x4
 have Ho := Lib.hid (Hms.out.2.1.no xE)
 have Hbd : Hid ((ms.flatten.length + [Value.int .i64 M.fr, .int .i64 M.tt, .int .i64 M.kd, .slice a3 n3 k3, .slice a4 n4 k4].length) * 72 ≤ 140737488355328) := Lib.hid (by
  have h5 := Hms.out.2.2.2
  rw [h5]
  simp only [List.length_cons, List.length_nil]
  omega)
 have Hbg := Lib.hid (xE.blk Hb.out (fun h => h))
 have HxE := Lib.hid xE
 have Ho3 := Lib.hid (o3.no x4)
 have Ho4 := Lib.hid (p3.no x4)
 have Hfr : Hid (Fresh w (.slice a3 n3 k3) ∧ Fresh w (.slice a4 n4 k4)) := Lib.hid ⟨f3.mono (Hx1.out.trans xd).size, g3.mono (Hx1.out.trans xd).size⟩
 clear hS4 hS3 hSd o3 p3 f3 g3 xE x4 x3 xd b4 q1 q2 hs4 hone
 go_wp2_with (at_builtin; refine wpList_app _ rfl (.tmp 11) (.tmp 14) 30 30 rfl 37 5 72 unMsgs elMsg Ho.out Hsrc.out rfl rfl Hbd.out (by decide) ?_; intro v' w' o' x' h'; refine halt2 (fun _K HK => ?_))
 obtain ⟨a', n', c', rfl, _⟩ := o'.rd
 have hgr : ¬ ((Value.slice ra rn rc).ownBlock = some g) := fun hg => Ho.out.ne_blk Hbg.out Ht.out.1 g hg rfl
 have bg' := x'.blk Hbg.out hgr
 have hfz : w'.frozen? ⟨g, 6, none⟩ = false := frozen_of_blk bg' 6
 have k6 : w'.cell? ⟨g, 6, none⟩ = some (.slice ra rn rc) := by rw [cell_of_blk bg']; exact hrv
 have Hbg' := Lib.hid bg'
 have Hx' := Lib.hid x'
 have Ho' := Lib.hid o'
 have Hh' := Lib.hid h'
 clear bg' x' o' h' hgr
 refine HK.out ?_; clear HK _K
 go_wp2_with fail
 go_ret
 have kg := blk_setCell Hbg'.out 6 (.slice a' n' c')
 have xs : Ext (fun b => b = g) w' (w'.setCell ⟨g, 6, none⟩ (.slice a' n' c')) := (Ext.refl (fun b => b = g) w').setCell (p := ⟨g, 6, none⟩) (.inl rfl) _
 generalize (w'.setCell ⟨g, 6, none⟩ (.slice a' n' c')) = wF at kg xs ⊢
 have HFo := HF.out
 have hrF := Hms.out.2.2.1
 have hty : ∀ b, (Value.slice ra rn rc).ownBlock = some b → ∃ cs fr, w4.heap[b]? = some (.cells cs 37 fr) := own_type Ho.out
 have xF : Ext (fun b => b = g ∨ (Value.slice ra rn rc).ownBlock = some b) w wF := ((HxE.out.of_no).trans (Hx'.out.mono (fun b _ h => .inr h))).trans (xs.mono (fun b _ h => .inl h))
 have hsz := HxE.out.size
 have hsz' := Hx'.out.size
 have hszs := xs.size
 have hszF := xF.size
 have hrow : ∀ (m' : List Value) (M' : PMsg) (G : Nat → Prop), MsgF w4 G m' M' → MsgF wF G m' M' := fun m' M' G h => by
  refine (h.ext Hx'.out (fun b hb _ => ?_)).ext xs (fun b hb _ => ?_)
  ·obtain ⟨cs, fr, h⟩ := hty b hb
   exact ⟨cs, _, fr, h, by decide, by decide⟩
  ·obtain rfl : b = g := hb
   exact ⟨_, _, _, Hbg'.out, Ht.out.2.1, Ht.out.2.2⟩
 have hrows : RowsF wF F ms Ms := by
  refine ((Hms.out.1.ext HxE.out (fun b hb _ => hb.elim)).ext Hx'.out (fun b hb _ => ?_)).ext xs (fun b hb _ => ?_)
  ·obtain ⟨cs, fr, h⟩ := hty b hb
   exact ⟨cs, _, fr, h, by decide, by decide⟩
  ·obtain rfl : b = g := hb
   exact ⟨_, _, _, Hbg'.out, Ht.out.2.1, Ht.out.2.2⟩
 have hnew : MsgF wF (Gr F w wF) [.int .i64 M.fr, .int .i64 M.tt, .int .i64 M.kd, .slice a3 n3 k3, .slice a4 n4 k4] M := by
  refine hrow _ _ _ ⟨_, _, rfl, Ho3.out, Ho4.out, fun b hb => .inr ⟨Hfr.out.1 b hb, ?_⟩, fun b hb => .inr ⟨Hfr.out.2 b hb, ?_⟩, Hl12.out⟩
  ·have := Ho3.out.lt b hb
   omega
  ·have := Ho4.out.lt b hb
   omega
 have hgo : ¬ ((Value.slice a' n' c').ownBlock = some g) := fun hg => Ho'.out.ne_blk Hbg'.out Ht.out.1 g hg rfl
 rw [Hrn.out]
 refine ⟨rfl, xF, _, kg, ⟨ms ++ [_], RowsF.snoc hnew (hrows.mono (fun b hb => .inl hb)), ?_, fun b hb => ?_⟩, fun b hb => ?_⟩
 ·rw [List.flatten_append, List.flatten_cons, List.flatten_nil, List.append_nil]
  exact Ho'.out.ext xs (fun b hb h => hgo (h ▸ hb))
 ·rcases Hh'.out with h | ⟨q, h, h2⟩
  ·exact .inl (hrF b (h ▸ hb))
  ·have hbq : b = q := by rw [h] at hb; exact (Option.some.inj hb).symm
   have := Ho'.out.lt b hb
   exact .inr ⟨by omega, by omega⟩
 ·rcases Hh'.out with h | ⟨q, h, h2⟩
  ·exact .inl (h ▸ hb)
  ·have hbq : b = q := by rw [h] at hb; exact (Option.some.inj hb).symm
   exact .inr (by omega)
end Go.Proofs.YtgglbholbkdgfaaGreatDoor
namespace Go.Proofs.YtgglbholbkdgfaaGreatDoor
open Go.RowKit
section
variable {P : Program} (w : World)
theorem run_app_fit (t tx ty e size bytes : Nat) (ht : P.underlying t = some (.slice e)) (hE : ElemT P e size bytes) (g n cap : Nat) (cur : Array Value) (hg : w.heap[g]? = some (.cells cur e (0, 0))) (hcs : cap * size ≤ cur.size)
  (x : Value) (m : Nat) (news : List Value) (hs : Src P size tx x m news w) (hroom : n + m ≤ cap) :
  (Builtin.append_ #[t, tx] ty #[.slice (some ⟨g, 0, none⟩) n cap, x]).run P w = .ok (.slice (some ⟨g, 0, none⟩) (n + m) cap) (w.setRow g (cur.toList.take (n * size) ++ news ++ cur.toList.drop (n * size + news.length)).toArray) := by
 obtain ⟨i, z, hi, hz, hsize, hby, hzs, hsz⟩ := hE
 subst hsize; subst hby
 have hl := hs.newsLen
 have hfit : n * i.size + news.length ≤ cur.size := by rw [hl, ← Nat.add_mul]; exact Nat.le_trans (Nat.mul_le_mul_right _ hroom) hcs
 have hst := run_storeCells_at P g (n * i.size) e news 0 cur w hg (by simpa using hfit) hs.one
 simp only [Nat.add_zero] at hst
 rcases hs.kind with ⟨e', hk⟩ | hk <;> simp [Builtin.append_, run_underlying ht, run_underlying hk, sizeOf, typeInfo, hi, hs.len, hroom, hs.cells, Addr.add_lit, hst]
theorem wpList_app_fit {ops : Array Oper} {rest : List Oper} {o : Oper} {a : Act} {Q : Exit → Act → World → Prop} (hgd : o.guard = none) (s x : Operand) (t tx : TypeId)
  (ho : o.op = .call { callee := .builtin .append, args := #[s, x], argTypes := #[t, tx] })
  (e size bytes : Nat) (ht : P.underlying t = some (.slice e)) (hE : ElemT P e size bytes) {u : Value} (g n cap : Nat) (cur : Array Value) (hg : w.heap[g]? = some (.cells cur e (0, 0))) (hcs : cap * size ≤ cur.size) {m : Nat} {news : List Value} (hs : Src P size tx u m news w) (hv : a.eval s = .slice (some ⟨g, 0, none⟩) n cap) (hu : a.eval x = u) (hroom : n + m ≤ cap) {k : Nat} (hk : n + m = k) {W : World} (hW : w.setRow g (cur.toList.take (n * size) ++ news ++ cur.toList.drop (n * size + news.length)).toArray = W)
  (h : wpList P ops Q rest (a.put o.dst (.slice (some ⟨g, 0, none⟩) k cap)) W) : wpList P ops Q (o :: rest) a w := by
 subst hk; subst hW
 have hr := run_app_fit (P := P) w t tx o.type e size bytes ht hE g n cap cur hg hcs u m news hs hroom
 refine wpList_plain hgd fun _ hK => ?_
 unfold Oper.wp execOp
 simp only [ho, resolve, invoke, builtin, Sem.run_bind, Sem.run_pure, Result.andThen_ok, List.map_toArray, List.map_cons, List.map_nil, hv, hu, hr]
 exact hK _ _ h
theorem run_clear_row (t e ty : TypeId) (z : Value) (ht : P.underlying t = some (.slice e)) (hv : (zeroValue e).run P w = .ok z w) (g o n c : Nat) (cur : Array Value) (hg : w.heap[g]? = some (.cells cur e (0, 0))) (hn : 0 < n) (hfit : o + n * z.cells.size ≤ cur.size) (h1 : ∀ u ∈ (Builtin.zeroCells z.cells n).toList, u.oneCell' = true) :
  (Builtin.clear_ #[t] ty #[.slice (some ⟨g, o, none⟩) n c]).run P w = .ok (.tuple #[]) (w.setRow g (cur.toList.take o ++ (Builtin.zeroCells z.cells n).toList ++ cur.toList.drop (o + n * z.cells.size)).toArray) := by
 have hl : (Builtin.zeroCells z.cells n).toList.length = n * z.cells.size := by rw [Array.length_toList, size_zeroCells]
 have hst := run_storeCells_at P g o e (Builtin.zeroCells z.cells n).toList 0 cur w hg (by simpa [hl] using hfit) h1
 simp only [Nat.add_zero, hl] at hst
 obtain ⟨m, rfl⟩ : ∃ m, n = m + 1 := ⟨n - 1, by omega⟩
 simp [Builtin.clear_, run_underlying ht, hv, hst]
end
theorem elemMsgs : Tryz.prog.elem 30 = 37 := by simp [Program.elem, unMsgs]
theorem elem_ht : Tryz.prog.underlying 30 = some (.slice (Tryz.prog.elem 30)) := by rw [elemMsgs]; exact unMsgs
theorem sizeMsg (w : World) : (sizeOf 37).run Tryz.prog w = .ok 5 w := by kernel_rfl
theorem zeroMsg5 (w : World) : (zeroValue 37).run Tryz.prog w = .ok (.agg #[.int .i64 0, .int .i64 0, .int .i64 0, .slice none 0 0, .slice none 0 0]) w := by kernel_rfl
theorem zeroRow5 : (Builtin.zeroCells (Value.cells (.agg #[.int .i64 0, .int .i64 0, .int .i64 0, .slice none 0 0, .slice none 0 0])) 1).toList = [.int .i64 0, .int .i64 0, .int .i64 0, .slice none 0 0, .slice none 0 0] := by kernel_rfl
theorem msgs_l (w : World) (a : Option Addr) (len cap : Nat) (l : Int) (h0 : 0 ≤ l) (h1 : l ≤ len) :
  (Instr.slice 30 (.slice a len cap) (some (.int .i64 l)) none none).run Tryz.prog w = .ok (.slice (if cap = l.toNat then a else a.map (·.add (l.toNat * 5))) (len - l.toNat) (cap - l.toNat)) w := by
 rw [run_slice_l w _ a len cap elem_ht .i64 l h0 h1, elemMsgs, sizeMsg]
 rfl
theorem msgs_h (w : World) (a : Option Addr) (len cap : Nat) (h : Int) (h0 : 0 ≤ h) (h1 : h ≤ cap) :
  (Instr.slice 30 (.slice a len cap) none (some (.int .i64 h)) none).run Tryz.prog w = .ok (.slice (if cap = 0 then a else a.map (·.add (0 * 5))) (h.toNat - 0) (cap - 0)) w := by
 rw [run_slice_h w _ a len cap elem_ht .i64 h h0 h1, elemMsgs, sizeMsg]
 rfl
theorem msgs_lh (w : World) (a : Option Addr) (len cap : Nat) (l h : Int) (h0 : 0 ≤ l) (h1 : l ≤ h) (h2 : h ≤ cap) :
  (Instr.slice 30 (.slice a len cap) (some (.int .i64 l)) (some (.int .i64 h)) none).run Tryz.prog w = .ok (.slice (if cap = l.toNat then a else a.map (·.add (l.toNat * 5))) (h.toNat - l.toNat) (cap - l.toNat)) w := by
 rw [run_slice_lh w _ a len cap elem_ht .i64 .i64 l h h0 h1 h2, elemMsgs, sizeMsg]
 rfl
theorem msgs_lhm (w : World) (a : Option Addr) (len cap : Nat) (l h m : Int) (h0 : 0 ≤ l) (h1 : l ≤ h) (h2 : h ≤ m) (h3 : m ≤ cap) :
  (Instr.slice 30 (.slice a len cap) (some (.int .i64 l)) (some (.int .i64 h)) (some (.int .i64 m))).run Tryz.prog w = .ok (.slice (if m.toNat = l.toNat then a else a.map (·.add (l.toNat * 5))) (h.toNat - l.toNat) (m.toNat - l.toNat)) w := by
 rw [run_slice_lhm w _ a len cap elem_ht .i64 .i64 .i64 l h m h0 h1 h2 h3, elemMsgs, sizeMsg]
 rfl
set_option maxRecDepth 100000 in
set_option maxHeartbeats 4000000 in
theorem Delete_at (g n cap i : Nat) (j : Int) (cur : Array Value) (xs : List Value) (w : World) (hg : w.heap[g]? = some (.cells cur 37 (0, 0))) (hcs : cap * 5 ≤ cur.size) (hnc : n ≤ cap) (hx : cur.toList.take (n * 5) = xs) (hxl : xs.length = n * 5) (h1 : ∀ u ∈ xs, u.oneCell' = true) (hi : i < n) (hj : j = (i : Int) + 1) (hn : n ≤ 100000) :
  Calls Tryz.prog 95 #[.slice (some ⟨g, 0, none⟩) n cap, .int .i64 (i : Int), .int .i64 j] w fun e w' => e = .returned (.slice (some ⟨g, 0, none⟩) (n - 1) cap) ∧ Ext (fun k => k = g) w w' ∧ ∃ cur', w'.heap[g]? = some (.cells cur' 37 (0, 0)) ∧ cap * 5 ≤ cur'.size ∧ cur'.toList.take ((n - 1) * 5) = xs.take (i * 5) ++ xs.drop ((i + 1) * 5) := by
 obtain ⟨jn, hjn⟩ : ∃ jn : Nat, jn = i + 1 := ⟨_, rfl⟩
 obtain rfl : j = (jn : Int) := by omega
 obtain ⟨m, hm⟩ : ∃ m, n - jn = m := ⟨_, rfl⟩
 obtain ⟨n1, hn1⟩ : ∃ n1, n - 1 = n1 := ⟨_, rfl⟩
 have him : i + m = n1 := by omega
 obtain ⟨ca, hca⟩ : ∃ ca, cap - jn = ca := ⟨_, rfl⟩
 obtain ⟨cb, hcb⟩ : ∃ cb, cap - n1 = cb := ⟨_, rfl⟩
 obtain ⟨A, hA⟩ : ∃ A, (if cap = jn then some (⟨g, 0, none⟩ : Addr) else (some (⟨g, 0, none⟩ : Addr)).map (·.add (jn * 5))) = A := ⟨_, rfl⟩
 obtain ⟨A13, hA13⟩ : ∃ A13, (if n = i then some (⟨g, 0, none⟩ : Addr) else (some (⟨g, 0, none⟩ : Addr)).map (·.add (i * 5))) = A13 := ⟨_, rfl⟩
 obtain ⟨n13, hn13⟩ : ∃ q, jn - i = q := ⟨_, rfl⟩
 obtain ⟨c13, hc13⟩ : ∃ q, n - i = q := ⟨_, rfl⟩
 have s13 := fun w => msgs_lhm w (some ⟨g, 0, none⟩) n cap (i : Int) (jn : Int) (n : Int) (by omega) (by omega) (by omega) (by omega)
 have s22 := fun w => msgs_h w (some ⟨g, 0, none⟩) n cap (i : Int) (by omega) (by omega)
 have s25 := fun w => msgs_l w (some ⟨g, 0, none⟩) n cap (jn : Int) (by omega) (by omega)
 have s31 := fun w => msgs_lh w (some ⟨g, 0, none⟩) n1 cap (n1 : Int) (n : Int) (by omega) (by omega) (by omega)
 have e0 : (if cap = 0 then (some ⟨g, 0, none⟩ : Option Addr) else (some (⟨g, 0, none⟩ : Addr)).map (·.add (0 * 5))) = some ⟨g, 0, none⟩ := by split <;> simp [Addr.add]
 have e1 : (if cap = n1 then (some ⟨g, 0, none⟩ : Option Addr) else (some (⟨g, 0, none⟩ : Addr)).map (·.add (n1 * 5))) = some ⟨g, n1 * 5, none⟩ := by rw [if_neg (by omega), Option.map_some, Addr.add_lit, Nat.zero_add]
 simp only [Int.toNat_natCast, Nat.sub_zero, e0, e1, hA, hA13, hm, hca, hcb, hn13, hc13] at s13 s22 s25 s31
 rw [show n - n1 = 1 by omega] at s31
 have hsrcE : ∀ w1 : World, w1.heap[g]? = some (.cells cur 37 (0, 0)) → Src Tryz.prog 5 30 (.slice A m ca) m (xs.drop (jn * 5)) w1 := fun w1 hw1 => by
  have hlen : (xs.drop (jn * 5)).length = m * 5 := by rw [List.length_drop, hxl, ← hm, Nat.sub_mul]
  have hq : ∃ q, A = some q ∧ ∀ k u, (xs.drop (jn * 5))[k]? = some u → w1.cell? (q.add k) = some u := by
   by_cases h : cap = jn
   ·rw [if_pos h] at hA
    refine ⟨_, hA.symm, fun k u hu => ?_⟩
    have h0 : (xs.drop (jn * 5)).length = 0 := by rw [hlen]; omega
    rw [List.length_eq_zero_iff.1 h0] at hu
    cases hu
   ·rw [if_neg h] at hA
    refine ⟨_, hA.symm, fun k u hu => ?_⟩
    show w1.cell? (((⟨g, 0, none⟩ : Addr).add (jn * 5)).add k) = some u
    rw [Addr.add_lit, Addr.add_lit, Nat.zero_add, cell_of_blk hw1]
    rw [List.getElem?_drop, ← hx, List.getElem?_take] at hu
    split at hu
    ·simpa using hu
    ·cases hu
  obtain ⟨q, rfl, hc⟩ := hq
  exact Src.ofSlice w1 unMsgs q m ca _ hlen hc (fun u hu => h1 u (List.mem_of_mem_drop hu))
 have hneq : ((i : Int) == (jn : Int)) = false := beq_eq_false_iff_ne.2 (by omega)
 have Hsrc := Lib.hid (hsrcE w.drew (by exact hg))
 have Hg := Lib.hid hg
 have Hcs := Lib.hid hcs
 have Hnn := Lib.hid (And.intro hnc (And.intro him (And.intro hi (And.intro hjn (And.intro hm hn1)))))
 have Hx := Lib.hid (And.intro hx hxl)
 clear hsrcE hg hcs hnc him hm hn1 hx hxl h1 hi hjn hA hA13 e0 e1 hca hcb hn13 hc13 hj
 go_enter Tryz.func95, Tryz.ntmps95
 go_wp2_with fail
 refine wp_region_N (fun _ => True) 6 (by kernel_rfl) ?_
 have hSd : True := trivial
 obtain ⟨wd, hwd⟩ : ∃ wd, w.drew = wd := ⟨_, rfl⟩
 have xd : Ext (fun k => k = g) w wd := by rw [← hwd]; exact (Ext.refl _ w).drew
 have Hgd : Hid (wd.heap[g]? = some (.cells cur 37 (0, 0))) := Lib.hid (by rw [← hwd]; exact Hg.out)
 rw [hwd] at Hsrc ⊢
 clear hwd
 refine wpAnyN_free 0 (v := ?_) (by kernel_rfl) rfl (fun _ _ _ h => h) hSd (by rfl) ?_ ?_; rotate_left; (focus (intro w; go_simp; try with_reducible rfl)); (try simp only [Act.put]); (try simp only [List.setIfInBounds_toArray, List.set_cons_zero, List.set_cons_succ])
 refine wpAnyN_free 1 (v := ?_) (by kernel_rfl) rfl (fun _ _ _ h => h) hSd (by rfl) ?_ ?_; rotate_left; (focus (intro w; go_simp; try with_reducible rfl)); (try simp only [Act.put]); (try simp only [List.setIfInBounds_toArray, List.set_cons_zero, List.set_cons_succ])
 refine wpAnyN_free 2 (v := ?_) (by kernel_rfl) rfl (fun _ _ _ h => h) hSd (by rfl) ?_ ?_; rotate_left; (focus (intro w; go_simp; try with_reducible rfl)); (try simp only [Act.put]); (try simp only [List.setIfInBounds_toArray, List.set_cons_zero, List.set_cons_succ])
 refine wpAnyN_free 3 (v := ?_) (by kernel_rfl) rfl (fun _ _ _ h => h) hSd (by rfl) ?_ ?_; rotate_left; (focus (intro w; go_simp; try with_reducible rfl)); (try simp only [Act.put]); (try simp only [List.setIfInBounds_toArray, List.set_cons_zero, List.set_cons_succ])
 refine wpAnyN_free 4 (v := ?_) (by kernel_rfl) rfl (fun _ _ _ h => h) hSd (by rfl) ?_ ?_; rotate_left; (focus (intro w; go_simp; try with_reducible rfl)); (try simp only [Act.put]); (try simp only [List.setIfInBounds_toArray, List.set_cons_zero, List.set_cons_succ])
 refine wpAnyN_free 5 (v := ?_) (by kernel_rfl) rfl (fun _ _ _ h => h) hSd (by rfl) ?_ ?_; rotate_left; (focus (intro w; go_simp; try with_reducible rfl)); (try simp only [Act.put]); (try simp only [List.setIfInBounds_toArray, List.set_cons_zero, List.set_cons_succ])
 refine wpAnyN_tail (by rfl) (by decide) (by kernel_rfl) (by kernel_rfl) ?_
 simp only [List.drop_succ_cons, List.drop_zero]
 have Hxd := Lib.hid xd
 clear xd hSd
 obtain ⟨cur1, hcur1⟩ : ∃ c1, (cur.toList.take (i * 5) ++ xs.drop (jn * 5) ++ cur.toList.drop (i * 5 + (xs.drop (jn * 5)).length)).toArray = c1 := ⟨_, rfl⟩
 obtain ⟨w1, hw1⟩ : ∃ w1, wd.setRow g (cur.toList.take (i * 5) ++ xs.drop (jn * 5) ++ cur.toList.drop (i * 5 + (xs.drop (jn * 5)).length)).toArray = w1 := ⟨_, rfl⟩
 have hb1 := setRow_heap wd g cur (cur.toList.take (i * 5) ++ xs.drop (jn * 5) ++ cur.toList.drop (i * 5 + (xs.drop (jn * 5)).length)).toArray 37 (0, 0) Hgd.out
 have x1 : Ext (fun k => k = g) wd (wd.setRow g (cur.toList.take (i * 5) ++ xs.drop (jn * 5) ++ cur.toList.drop (i * 5 + (xs.drop (jn * 5)).length)).toArray) := (Ext.refl (fun k => k = g) wd).setRow (g := g) (.inl rfl) _
 rw [hw1] at hb1 x1
 rw [hcur1] at hb1
 have hN := Hnn.out
 have hsz1 : cur1.size = cur.size := by
  have := Hcs.out
  have hxl := Hx.out.2
  rw [← hcur1]
  simp only [List.size_toArray, List.length_append, List.length_take, List.length_drop, Array.length_toList, hxl]
  omega
 obtain ⟨w2, hw2⟩ : ∃ w2, w1.setRow g (cur1.toList.take (n1 * 5) ++ (Builtin.zeroCells (Value.cells (.agg #[.int .i64 0, .int .i64 0, .int .i64 0, .slice none 0 0, .slice none 0 0])) 1).toList ++ cur1.toList.drop (n1 * 5 + 1 * 5)).toArray = w2 := ⟨_, rfl⟩
 have hclr : ∀ ty, (Builtin.clear_ #[30] ty #[.slice (some ⟨g, n1 * 5, none⟩) 1 cb]).run Tryz.prog w1 = .ok (.tuple #[]) w2 := fun ty => by
  rw [← hw2]
  exact run_clear_row (P := Tryz.prog) w1 30 37 ty _ unMsgs (zeroMsg5 w1) g (n1 * 5) 1 cb cur1 hb1 (by omega) (by rw [hsz1]; have := Hcs.out; show n1 * 5 + 1 * 5 ≤ _; omega) (by rw [zeroRow5]; simp [Value.oneCell'])
 have hb2 := setRow_heap w1 g cur1 (cur1.toList.take (n1 * 5) ++ (Builtin.zeroCells (Value.cells (.agg #[.int .i64 0, .int .i64 0, .int .i64 0, .slice none 0 0, .slice none 0 0])) 1).toList ++ cur1.toList.drop (n1 * 5 + 1 * 5)).toArray 37 (0, 0) hb1
 have x2 : Ext (fun k => k = g) w1 (w1.setRow g (cur1.toList.take (n1 * 5) ++ (Builtin.zeroCells (Value.cells (.agg #[.int .i64 0, .int .i64 0, .int .i64 0, .slice none 0 0, .slice none 0 0])) 1).toList ++ cur1.toList.drop (n1 * 5 + 1 * 5)).toArray) := (Ext.refl (fun k => k = g) w1).setRow (g := g) (.inl rfl) _
 rw [hw2] at hb2 x2
 have Hb2 := Lib.hid hb2
 have Hx2 := Lib.hid ((Hxd.out.trans x1).trans x2)
 have Hc1 := Lib.hid (And.intro hcur1 hsz1)
 have Hw1 := Lib.hid hw1
 have Him : Hid (i + m = n1) := Lib.hid hN.2.1
 have Hroom : Hid (i + m ≤ cap) := Lib.hid (by omega)
 clear hb1 hb2 x1 x2 hcur1 hsz1 hN hw1 hw2
 go_wp2_with (at_builtin; refine wpList_app_fit _ rfl (.tmp 22) (.tmp 25) 30 30 rfl 37 5 72 unMsgs elMsg g i cap cur Hgd.out Hcs.out Hsrc.out rfl rfl Hroom.out Him.out Hw1.out ?_)
 go_ret
 have hN := Hnn.out
 have hxl := Hx.out.2
 have hcs := Hcs.out
 obtain ⟨hc1, hc2⟩ := Hc1.out
 rw [hN.2.2.2.2.2]
 refine ⟨rfl, Hx2.out, _, Hb2.out, ?_, ?_⟩
 ·simp only [List.size_toArray, List.length_append, List.length_take, List.length_drop, Array.length_toList, hc2]
  have h5 := congrArg List.length zeroRow5
  rw [Array.length_toList] at h5
  rw [h5]
  simp only [List.length_cons, List.length_nil]
  omega
 ·rw [List.append_assoc, List.take_append_of_le_length (by simp only [List.length_take, Array.length_toList, hc2]; omega), List.take_take, Nat.min_self, ← hc1]
  have e1 : cur.toList.take (i * 5) = xs.take (i * 5) := by rw [← Hx.out.1, List.take_take, Nat.min_eq_left (by omega)]
  have e2 : (xs.take (i * 5) ++ xs.drop (jn * 5)).length = n1 * 5 := by
   simp only [List.length_append, List.length_take, List.length_drop, hxl]
   omega
  rw [e1, List.take_append_of_le_length (by omega), List.take_of_length_le (by omega), hN.2.2.2.1]
end Go.Proofs.YtgglbholbkdgfaaGreatDoor
