/- Joined texts: B105 B106 B107 B108 B109 B110 B111. Each has its own head. -/
import Derived.Test.YtgglbholbkdgfaaGreatDoorK20
set_option linter.unusedVariables false
set_option linter.unusedSimpArgs false
namespace Go.Proofs.YtgglbholbkdgfaaGreatDoor
open Go.RowKit
structure MInfo where
 mb : Nat
 d : Nat
 p : Value
 tk : Value
def ptrAt (ms : List MInfo) (k : Nat) : Value := match ms[k]? with
 | some x => .pointer (some ⟨x.mb, 0, none⟩)
 | none => .pointer none
def groupArr (n : Nat) (ms : List MInfo) (rv : Value) (dr : Nat) : Array Value := #[.int .i64 n, ptrAt ms 0, ptrAt ms 1, ptrAt ms 2, ptrAt ms 3, ptrAt ms 4, rv, .int .u32 dr]
def NodeOr (w : World) (d : Nat) (F : Nat → Prop) (φ : List UInt8 → List UInt8) (m : PMem) (p : Value) : Prop :=
 (m.up = true ∧ ∃ r, p = .pointer (some ⟨r, 0, none⟩) ∧ NodeQ w r d F φ m.N) ∨ (m.up = false ∧ p = .pointer none ∧ ∃ s D ps, DiskIs w d F D ∧ NodeDisk D (m.N.sub φ) 1048576 s ps ∧ (s = false → m.N.term = 0))
theorem NodeOr.ext {w w' : World} {d : Nat} {F G : Nat → Prop} {φ : List UInt8 → List UInt8} {m : PMem} {p : Value} (h : NodeOr w d F φ m p) (x : Ext G w w') (hG : ∀ b, F b → ¬ G b) : NodeOr w' d F φ m p := by
 rcases h with ⟨h1, r, h2, h3⟩ | ⟨h1, h2, s, D, ps, h3, h4⟩
 ·exact .inl ⟨h1, r, h2, h3.ext x hG⟩
 ·exact .inr ⟨h1, h2, s, D, ps, h3.ext x hG, h4⟩
structure MemAt (w : World) (F0 F : Nat → Prop) (φ : List UInt8 → List UInt8) (x : MInfo) (m : PMem) : Prop where
 blk : w.heap[x.mb]? = some (.cells #[.pointer (some ⟨x.d, 0, none⟩), x.p, x.tk] 120 (0, 0))
 own : F0 x.mb
 node : NodeOr w x.d F φ m x.p
 tak : TakenAt w F0 x.tk (m.took.map (subE φ))
theorem MemAt.ext {w w' : World} {F0 F G : Nat → Prop} {φ : List UInt8 → List UInt8} {x : MInfo} {m : PMem} (h : MemAt w F0 F φ x m) (e : Ext G w w') (h0 : ∀ b, F0 b → ¬ G b) (h1 : ∀ b, F b → ¬ G b) : MemAt w' F0 F φ x m :=
 ⟨e.blk h.blk (h0 _ h.own), h.own, h.node.ext e h1, h.tak.off e h0⟩
theorem MemAt.wide {w : World} {F0 G0 F : Nat → Prop} {φ : List UInt8 → List UInt8} {x : MInfo} {m : PMem} (h : MemAt w F0 F φ x m) (hs : ∀ b, F0 b → G0 b) : MemAt w G0 F φ x m :=
 ⟨h.blk, hs _ h.own, h.node, h.tak.mono hs⟩
structure GAt (w : World) (g : Nat) (FS : Nat → Nat → Prop) (φ : List UInt8 → List UInt8) (G : PGroup) (ms : List MInfo) (rv : Value) : Prop where
 blk : w.heap[g]? = some (.cells (groupArr G.n ms rv G.draws) 118 (0, 0))
 self : FS 0 g
 lt : ∀ k b, FS k b → b < w.heap.size
 apart : ∀ j k b, FS j b → FS k b → j = k
 row : RowAt w (FS 0) rv (G.row.map (QMsg.real φ))
 draws : G.draws < 2147483648
 n : G.n ≤ 5
 len : ms.length = G.mem.length
 five : ms.length ≤ 5
 mem : ∀ (i : Nat) (x : MInfo) (m : PMem), ms[i]? = some x → G.mem[i]? = some m → MemAt w (FS 0) (FS (i + 1)) φ x m
 mbs : ∀ (i j : Nat) (x y : MInfo), ms[i]? = some x → ms[j]? = some y → x.mb = y.mb → i = j
 flight : G.row.length ≤ 4000
 tks : ∀ (i j : Nat) (x y : MInfo) (b : Nat), ms[i]? = some x → ms[j]? = some y → x.tk.ownBlock = some b → y.tk.ownBlock = some b → i = j
theorem GAt.no {w w' : World} {g : Nat} {FS : Nat → Nat → Prop} {φ : List UInt8 → List UInt8} {G : PGroup} {ms : List MInfo} {rv : Value} (h : GAt w g FS φ G ms rv) (x : Ext NoB w w') : GAt w' g FS φ G ms rv :=
 ⟨x.blk h.blk (fun h => h), h.self, fun k b hb => Nat.lt_of_lt_of_le (h.lt k b hb) x.size, h.apart, h.row.off x (fun _ _ h => h), h.draws, h.n, h.len, h.five, fun i a m h1 h2 => (h.mem i a m h1 h2).ext x (fun _ _ h => h) (fun _ _ h => h), h.mbs, h.flight, h.tks⟩
theorem groupArr_draw (n : Nat) (ms : List MInfo) (rv : Value) (d d' : Nat) : (groupArr n ms rv d).setIfInBounds 7 (.int .u32 (d' : Int)) = groupArr n ms rv d' := rfl
theorem stir_eq (G : PGroup) : G.stir = { G with draws := stirN G.draws } := by unfold PGroup.stir stirN; rfl
set_option maxRecDepth 100000 in
theorem stirN_lt (d : Nat) : stirN d < 2147483648 := Nat.mod_lt _ (by decide)
set_option maxRecDepth 100000 in
theorem GAt.redraw {w w' : World} {g : Nat} {FS : Nat → Nat → Prop} {φ : List UInt8 → List UInt8} {G : PGroup} {ms : List MInfo} {rv : Value} (h : GAt w g FS φ G ms rv) (d' : Nat) (hd' : d' < 2147483648)
  (hgb : w'.heap[g]? = some (.cells ((groupArr G.n ms rv G.draws).setIfInBounds 7 (.int .u32 (d' : Int))) 118 (0, 0))) (x : Ext (fun b => b = g) w w') : GAt w' g FS φ { G with draws := d' } ms rv := by
 have hty : ∀ b, b = g → ∃ cs t fr, w.heap[b]? = some (.cells cs t fr) ∧ t ≠ 3 ∧ t ≠ 5 ∧ t ≠ 50 ∧ t ≠ 37 ∧ t ≠ 120 := fun b hb => ⟨_, _, _, hb ▸ h.blk, by decide, by decide, by decide, by decide, by decide⟩
 rw [groupArr_draw] at hgb
 refine ⟨hgb, h.self, fun k b hb => Nat.lt_of_lt_of_le (h.lt k b hb) x.size, h.apart, ?_, hd', h.n, h.len, h.five, fun i a m h1 h2 => ?_, h.mbs, h.flight, h.tks⟩
 ·refine h.row.ty x (fun b hb _ => ?_) (fun b hb hb' => ?_)
  ·obtain ⟨cs, t, fr, h1, h2, h3, _⟩ := hty b hb
   exact ⟨cs, t, fr, h1, h2, h3⟩
  ·obtain rfl : b = g := hb'
   obtain ⟨_, _, h1, _⟩ := h.row
   exact h1.ne_blk h.blk (by decide) b hb rfl
 ·have hm := h.mem i a m h1 h2
  refine ⟨x.blk hm.blk (fun e => ?_), hm.own, hm.node.ext x (fun b hb hb' => ?_), hm.tak.ty x (fun b hb => ?_)⟩
  ·have := hm.blk
   rw [e, h.blk] at this
   cases this
  ·obtain rfl : b = g := hb'
   have := h.apart _ _ _ hb h.self
   omega
  ·obtain ⟨cs, t, fr, h1, h2, h3, h4, _⟩ := hty b hb
   exact ⟨cs, t, fr, h1, h3, h4⟩
theorem GAt.draw {w : World} {g : Nat} {FS : Nat → Nat → Prop} {φ : List UInt8 → List UInt8} {G : PGroup} {ms : List MInfo} {rv : Value} (h : GAt w g FS φ G ms rv) :
  Calls Tryz.prog 66 #[.pointer (some ⟨g, 0, none⟩)] w fun e w' => e = .returned (.int .i64 (G.draw : Nat)) ∧ GAt w' g FS φ G.stir ms rv ∧ Ext (fun b => b = g) w w' := by
 refine (draw_any g G.draws _ w h.blk rfl h.draws).mono ?_
 rintro e w' ⟨rfl, hb, x⟩
 unfold PGroup.draw
 rw [stir_eq]
 exact ⟨rfl, h.redraw _ (stirN_lt _) hb x, x⟩
theorem real_ok {φ : List UInt8 → List UInt8} (hφ : Tok φ) (m : QMsg) (h1 : m.nums.length ≤ 4) (h2 : m.es.length ≤ 8) (h3 : ∀ e ∈ m.es, e.1 ≤ 1000000000) : (m.real φ).nums.length ≤ 1000 ∧ (m.real φ).data.length ≤ 10000000 := by
 refine ⟨?_, ?_⟩
 ·show (m.nums.map _).length ≤ _
  rw [List.length_map]
  omega
 ·have := entsB_len (m.es.map (subE φ)) (fun e he => by
   obtain ⟨x, hx, rfl⟩ := List.mem_map.1 he
   have a1 := h3 x hx
   have a2 := hφ.len x.2
   exact ⟨by show x.1 ≤ _; omega, by show (φ x.2).length ≤ _; omega⟩)
  rw [List.length_map] at this
  show (entsB (m.es.map (subE φ))).length ≤ _
  omega
end Go.Proofs.YtgglbholbkdgfaaGreatDoor
namespace Go.Proofs.YtgglbholbkdgfaaGreatDoor
open Go.RowKit
theorem EntRows.mix {w w' : World} {G : Nat → Prop} {ms : List (List Value)} {es : List (Nat × List UInt8)} (h : EntRows w ms es) (x : Ext G w w') (hG : ∀ u ∈ ms.flatten, ∀ b, u.ownBlock = some b → G b → ∃ cs t fr, w.heap[b]? = some (.cells cs t fr) ∧ t ≠ 5) : EntRows w' ms es := by
 induction h with
 | nil => exact .nil
 | snoc _ h2 ih =>
  obtain ⟨dv, rfl, ho⟩ := h2
  refine .snoc (ih fun u hu => hG u (by rw [List.flatten_append]; exact List.mem_append_left _ hu)) ⟨dv, rfl, ho.ext x (fun b hb hGb => ?_)⟩
  obtain ⟨cs, t, fr, h1, h2⟩ := hG dv (by rw [List.flatten_append, List.flatten_cons, List.flatten_nil, List.append_nil]; exact List.mem_append_right _ (by simp)) b hb hGb
  exact ho.ne_blk h1 h2 b hb rfl
theorem TakenAt.mix {w w' : World} {F G : Nat → Prop} {v : Value} {es : List (Nat × List UInt8)} (h : TakenAt w F v es) (x : Ext G w w') (hG : ∀ b, F b → G b → ∃ cs t fr, w.heap[b]? = some (.cells cs t fr) ∧ t ≠ 5) (hv : ∀ b, v.ownBlock = some b → ¬ G b) : TakenAt w' F v es := by
 obtain ⟨ms, h1, h2, h3, h4⟩ := h
 exact ⟨ms, h1.mix x (fun u hu b hb => hG b (h4 u hu b hb)), h2.ext x hv, h3, h4⟩
theorem ptrAt_set (ms : List MInfo) (i : Nat) (x : MInfo) (tk : Value) (hx : ms[i]? = some x) (k : Nat) : ptrAt (ms.set i { x with tk := tk }) k = ptrAt ms k := by
 unfold ptrAt
 rw [List.getElem?_set]
 by_cases hik : i = k
 ·subst hik
  have hlt : i < ms.length := by
   rcases Nat.lt_or_ge i ms.length with h | h
   ·exact h
   ·rw [List.getElem?_eq_none h] at hx; cases hx
  rw [if_pos rfl, if_pos hlt, hx]
 ·rw [if_neg hik]
def GStep (w w' : World) (g : Nat) (FS : Nat → Nat → Prop) (φ : List UInt8 → List UInt8) (G' : PGroup) : Prop :=
 ∃ FS' ms' rv', GAt w' g FS' φ G' ms' rv' ∧ Ext (fun b => ∃ k, FS k b) w w' ∧ ∀ k b, FS' k b → (∃ j, FS j b) ∨ w.heap.size ≤ b
theorem GAt.went {φ : List UInt8 → List UInt8} (hφ : Tok φ) {w1 w2 : World} {g : Nat} {FS : Nat → Nat → Prop} {G : PGroup} {ms : List MInfo} {rv : Value} (h : GAt w1 g FS φ G ms rv) {i r : Nat} {x : MInfo} {m : PMem} (hx : ms[i]? = some x) (hm : G.mem[i]? = some m) (hup : m.up = true) (hp : x.p = .pointer (some ⟨r, 0, none⟩))
  {l : List QMsg} {T' : PNode} {v : Value} (x12 : Ext (FS (i + 1)) w1 w2) (hN : NodeQ w2 r x.d (Gr (FS (i + 1)) w1 w2) φ T') (hmsg : MsgsAre w2 v (l.map (QMsg.real φ))) (hfr : Fresh w1 v) {G' : PGroup} (hs : G.went i m l T' = some G') :
  Calls Tryz.prog 59 #[.pointer (some ⟨g, 0, none⟩), .pointer (some ⟨x.mb, 0, none⟩), v] w2 fun e w3 => e = .returned (.tuple #[]) ∧ GStep w1 w3 g FS φ G' := by
 unfold PGroup.went at hs
 split at hs
 ·cases hs
 ·next hc =>
  have hc1 : G.row.length + l.length ≤ 4000 := Nat.le_of_not_lt fun h => hc (.inl h)
  have hc2 : T'.fit = true := by
   cases hf : T'.fit with
   | true => rfl
   | false => exact absurd (.inr (.inl (by rw [hf]; rfl))) hc
  have hc3 : m.took.length ≤ 1000 := Nat.le_of_not_lt fun h => hc (.inr (.inr (.inl h)))
  have hc4 : ∀ q ∈ l, q.nums.length ≤ 4 ∧ q.es.length ≤ 8 ∧ ∀ e ∈ q.es, e.1 ≤ 1000000000 := by
   have : ¬ (!(l.all fun m => decide (m.nums.length ≤ 4) && decide (m.es.length ≤ 8) && m.es.all fun e => decide (e.1 ≤ 1000000000))) = true := fun h => hc (.inr (.inr (.inr h)))
   simp only [Bool.not_eq_true', Bool.not_eq_false, List.all_eq_true, Bool.and_eq_true, decide_eq_true_eq] at this
   exact fun q hq => ⟨(this q hq).1.1, (this q hq).1.2, (this q hq).2⟩
  have hG' := (Option.some.inj hs).symm
  have hd : ∀ j k b, j ≠ k → FS j b → ¬ FS k b := fun j k b hjk h1 h2 => hjk (h.apart _ _ _ h1 h2)
  have hmi := h.mem i x m hx hm
  have hrow2 := h.row.off x12 (fun b hb => hd _ _ b (by omega) hb)
  have hb2 := x12.blk h.blk (hd _ _ _ (by omega) h.self)
  have hmb1 := hmi.blk
  rw [hp] at hmb1
  have hmb2 := x12.blk hmb1 (hd _ _ _ (by omega) hmi.own)
  have htk2 := hmi.tak.off x12 (fun b hb => hd _ _ b (by omega) hb)
  have s12 := x12.size
  have hap : ∀ b, Gr (FS (i + 1)) w1 w2 b → ¬ FS 0 b := fun b hb h0 => by
   rcases hb with hb | hb
   ·exact hd _ _ b (by omega) hb h0
   ·have := h.lt 0 b h0
    omega
  refine (went_any hφ g r x.d x.mb (FS 0) (Gr (FS (i + 1)) w1 w2) T' _ rv x.tk v (G.row.map (QMsg.real φ)) (l.map (QMsg.real φ)) (m.took.map (subE φ)) w2 hb2 rfl h.self (fun b hb => Nat.lt_of_lt_of_le (h.lt 0 b hb) s12) hap hrow2 hN hc2 hmb2 hmi.own htk2 (by rw [List.length_map]; omega) (hmsg.toF (fun M hM => by
   obtain ⟨q, hq, rfl⟩ := List.mem_map.1 hM
   obtain ⟨a1, a2, a3⟩ := hc4 q hq
   exact real_ok hφ q a1 a2 a3)) (hfr.off (fun b hb => h.lt 0 b hb)) (by rw [List.length_map, List.length_map]; omega)).mono ?_
  rintro e w3 ⟨rfl, x23, rv', tk', hg3, hr3, hN3, hmb3, htk3, htko⟩
  have s23 := x23.size
  have hrvF : ∀ b, rv.ownBlock = some b → FS 0 b := by
   obtain ⟨_, _, _, h⟩ := h.row
   exact h
  have htkF : ∀ b, x.tk.ownBlock = some b → FS 0 b := by
   obtain ⟨_, _, _, h, _⟩ := hmi.tak
   exact h
  have hsub : ∀ b, (b = g ∨ rv.ownBlock = some b ∨ b = x.mb ∨ x.tk.ownBlock = some b) → FS 0 b := fun b hb => by
   rcases hb with h1 | h1 | h1 | h1
   ·exact h1 ▸ h.self
   ·exact hrvF b h1
   ·exact h1 ▸ hmi.own
   ·exact htkF b h1
  obtain ⟨FS', hFS⟩ : ∃ FS' : Nat → Nat → Prop, FS' = fun k b => (FS k b ∧ b < w1.heap.size) ∨ (k = i + 1 ∧ w1.heap.size ≤ b ∧ b < w2.heap.size) ∨ (k = 0 ∧ w2.heap.size ≤ b ∧ b < w3.heap.size) := ⟨_, rfl⟩
  have hF0 : ∀ b, Gr (FS 0) w2 w3 b → FS' 0 b := fun b hb => by
   rw [hFS]
   rcases hb with hb | hb
   ·exact .inl ⟨hb, h.lt 0 b hb⟩
   ·exact .inr (.inr ⟨rfl, hb⟩)
  have hFo : ∀ b, FS 0 b → FS' 0 b := fun b hb => hF0 b (.inl hb)
  have hFi : FS' (i + 1) = Gr (FS (i + 1)) w1 w2 := by
   funext b
   rw [hFS]
   apply propext
   constructor
   ·rintro (⟨h1, _⟩ | ⟨_, h1⟩ | ⟨h1, _⟩)
    ·exact .inl h1
    ·exact .inr h1
    ·omega
   ·rintro (h1 | h1)
    ·exact .inl ⟨h1, h.lt _ b h1⟩
    ·exact .inr (.inl ⟨rfl, h1⟩)
  have hFj : ∀ k, k ≠ 0 → k ≠ i + 1 → FS' k = FS k := fun k h0 hi => by
   funext b
   rw [hFS]
   apply propext
   constructor
   ·rintro (⟨h1, _⟩ | ⟨h1, _⟩ | ⟨h1, _⟩)
    ·exact h1
    ·exact absurd h1 hi
    ·exact absurd h1 h0
   ·exact fun h1 => .inl ⟨h1, h.lt _ b h1⟩
  have hlen := h.len
  have hil : i < ms.length := by
   rcases Nat.lt_or_ge i ms.length with h1 | h1
   ·exact h1
   ·rw [List.getElem?_eq_none h1] at hx; cases hx
  refine ⟨rfl, FS', ms.set i { x with tk := tk' }, rv', ?_, ?_, fun k b hb => ?_⟩
  ·rw [hG']
   refine ⟨?_, hFo g h.self, fun k b hb => ?_, fun j k b hj hk => ?_, ?_, h.draws, h.n, ?_, ?_, fun j y n hy hn => ?_, fun j k y z hy hz e => ?_, ?_, fun j k y z b hy hz e1 e2 => ?_⟩
   ·rw [hg3]
    have e : ∀ k, ptrAt (ms.set i { x with tk := tk' }) k = ptrAt ms k := ptrAt_set ms i x tk' hx
    unfold groupArr
    rw [e, e, e, e, e]
    rfl
   ·rw [hFS] at hb
    rcases hb with ⟨_, h1⟩ | ⟨_, _, h1⟩ | ⟨_, _, h1⟩ <;> omega
   ·rw [hFS] at hj hk
    rcases hj with ⟨h1, h2⟩ | ⟨h1, h2⟩ | ⟨h1, h2⟩ <;> rcases hk with ⟨h3, h4⟩ | ⟨h3, h4⟩ | ⟨h3, h4⟩
    ·exact h.apart _ _ _ h1 h3
    all_goals omega
   ·rw [List.map_append]
    exact hr3.mono hF0
   ·rw [List.length_set, List.length_set]
    exact h.len
   ·rw [List.length_set]
    exact h.five
   ·rw [List.getElem?_set] at hy hn
    by_cases hij : i = j
    ·subst hij
     rw [if_pos rfl, if_pos hil] at hy
     rw [if_pos rfl, if_pos (by omega)] at hn
     cases hy
     cases hn
     refine ⟨?_, hFo _ hmi.own, .inl ⟨hup, r, hp, ?_⟩, ?_⟩
     ·show w3.heap[x.mb]? = _
      rw [hmb3, hp]
      rfl
     ·rw [hFi]; exact hN3
     ·rw [List.map_append]
      exact htk3.mono hF0
    ·rw [if_neg hij] at hy hn
     have hmj := h.mem j y n hy hn
     have hmj2 := hmj.ext x12 (fun b hb => hd _ _ b (by omega) hb) (fun b hb => hd _ _ b (by omega) hb)
     have hnb : x.mb ≠ y.mb := fun e => hij (h.mbs i j x y hx hy e)
     have hyb : ¬ (y.mb = g ∨ rv.ownBlock = some y.mb ∨ y.mb = x.mb ∨ x.tk.ownBlock = some y.mb) := by
      rintro (h1 | h1 | h1 | h1)
      ·have h2 := hmj.blk
       rw [h1, h.blk] at h2
       cases h2
      ·obtain ⟨_, _, h2, _⟩ := h.row
       exact h2.ne_blk hmj.blk (by decide) _ h1 rfl
      ·exact hnb h1.symm
      ·obtain ⟨_, _, h2, _⟩ := hmi.tak
       exact h2.ne_blk hmj.blk (by decide) _ h1 rfl
     rw [hFj (j + 1) (by omega) (by omega)]
     refine (⟨x23.blk hmj2.blk (fun hb => hb.elim hyb (fun hb => hap _ hb hmj.own)), hmj.own, hmj2.node.ext x23 (fun b hb hb' => ?_), ?_⟩ : MemAt w3 (FS 0) (FS (j + 1)) φ y n).wide hFo
     ·rcases hb' with h1 | h1 | h1
      ·exact hd _ _ b (by omega) (hsub b h1) hb
      ·exact hd _ _ b (by omega) h1 hb
      ·have := h.lt _ b hb
       omega
     ·refine hmj2.tak.mix x23 (fun b hb hb' => ?_) (fun b hb hb' => ?_)
      ·rcases hb' with h1 | h1
       ·rcases h1 with h1 | h1 | h1 | h1
        ·exact ⟨_, _, _, h1 ▸ hb2, by decide⟩
        ·obtain ⟨_, _, h2, _⟩ := hrow2
         obtain ⟨cs, fr, h3⟩ := own_type h2 b h1
         exact ⟨cs, _, fr, h3, by decide⟩
        ·exact ⟨_, _, _, h1 ▸ hmb2, by decide⟩
        ·obtain ⟨_, _, h2, _⟩ := htk2
         obtain ⟨cs, fr, h3⟩ := own_type h2 b h1
         exact ⟨cs, _, fr, h3, by decide⟩
       ·exact (hap b h1 hb).elim
      ·have hyF : FS 0 b := by
        obtain ⟨_, _, _, h2, _⟩ := hmj.tak
        exact h2 b hb
       rcases hb' with h1 | h1
       ·obtain ⟨_, _, h2, _⟩ := hmj2.tak
        rcases h1 with h1 | h1 | h1 | h1
        ·exact h2.ne_blk (h1 ▸ hb2) (by decide) b hb rfl
        ·obtain ⟨_, _, h3, _⟩ := hrow2
         obtain ⟨cs, fr, h4⟩ := own_type h3 b h1
         exact h2.ne_blk h4 (by decide) b hb rfl
        ·exact h2.ne_blk (h1 ▸ hmb2) (by decide) b hb rfl
        ·exact hij (h.tks i j x y b hx hy h1 hb)
       ·exact hap b h1 hyF
   ·rw [List.getElem?_set] at hy hz
    by_cases hij : i = j
    ·by_cases hik : i = k
     ·omega
     ·rw [if_pos hij, if_pos (by omega)] at hy
      rw [if_neg hik] at hz
      cases hy
      exact hij ▸ h.mbs i k x z hx hz e
    ·rw [if_neg hij] at hy
     by_cases hik : i = k
     ·rw [if_pos hik, if_pos (by omega)] at hz
      cases hz
      exact hik ▸ h.mbs j i y x hy hx e
     ·rw [if_neg hik] at hz
      exact h.mbs j k y z hy hz e
   ·show (G.row ++ l).length ≤ 4000
    rw [List.length_append]
    exact hc1
   ·rw [List.getElem?_set] at hy hz
    have hold : ∀ (k : Nat) (y : MInfo), ms[k]? = some y → y.tk.ownBlock = some b → b < w1.heap.size := fun k y hy hb => by
     have : k < G.mem.length := by
      rw [← hlen]
      rcases Nat.lt_or_ge k ms.length with h1 | h1
      ·exact h1
      ·rw [List.getElem?_eq_none h1] at hy; cases hy
     obtain ⟨_, _, _, h2, _⟩ := (h.mem k y _ hy (List.getElem?_eq_getElem this)).tak
     exact h.lt 0 b (h2 b hb)
    by_cases hij : i = j
    ·by_cases hik : i = k
     ·omega
     ·rw [if_pos hij, if_pos (by omega)] at hy
      rw [if_neg hik] at hz
      cases hy
      rcases htko b e1 with h1 | h1
      ·exact hij ▸ h.tks i k x z b hx hz h1 e2
      ·have := hold k z hz e2
       omega
    ·rw [if_neg hij] at hy
     by_cases hik : i = k
     ·rw [if_pos hik, if_pos (by omega)] at hz
      cases hz
      rcases htko b e2 with h1 | h1
      ·exact hik ▸ h.tks j i y x b hy hx e1 h1
      ·have := hold j y hy e1
       omega
     ·rw [if_neg hik] at hz
      exact h.tks j k y z b hy hz e1 e2
  ·refine (x12.mono (fun b _ hb => ⟨_, hb⟩)).next x23 (fun b hb hl => ?_)
   rcases hb with h1 | h1 | h1
   ·exact ⟨0, hsub b h1⟩
   ·exact ⟨_, h1⟩
   ·omega
  ·rw [hFS] at hb
   rcases hb with ⟨h1, _⟩ | ⟨_, h1, _⟩ | ⟨_, h1, _⟩
   ·exact .inl ⟨k, h1⟩
   ·exact .inr h1
   ·exact .inr (by omega)
end Go.Proofs.YtgglbholbkdgfaaGreatDoor
namespace Go.Proofs.YtgglbholbkdgfaaGreatDoor
open Go.RowKit
theorem GStep.refl {w : World} {g : Nat} {FS : Nat → Nat → Prop} {φ : List UInt8 → List UInt8} {G : PGroup} {ms : List MInfo} {rv : Value} (h : GAt w g FS φ G ms rv) : GStep w w g FS φ G := ⟨FS, ms, rv, h, Ext.refl _ _, fun k _ hb => .inl ⟨k, hb⟩⟩
theorem GStep.pre {w w1 w2 : World} {g : Nat} {FS : Nat → Nat → Prop} {φ : List UInt8 → List UInt8} {G : PGroup} (h : GStep w1 w2 g FS φ G) (x : Ext (fun b => ∃ k, FS k b) w w1) : GStep w w2 g FS φ G := by
 obtain ⟨FS', ms', rv', h1, h2, h3⟩ := h
 exact ⟨FS', ms', rv', h1, x.trans h2, fun k b hb => (h3 k b hb).imp id (fun h => Nat.le_trans x.size h)⟩
theorem groupArr_mem (n : Nat) (ms : List MInfo) (rv : Value) (d i : Nat) (h : i < 5) : (groupArr n ms rv d)[1 + i]? = some (ptrAt ms i) := by
 match i, h with
 | 0, _ => rfl
 | 1, _ => rfl
 | 2, _ => rfl
 | 3, _ => rfl
 | 4, _ => rfl
theorem GAt.ptr {w : World} {g : Nat} {FS : Nat → Nat → Prop} {φ : List UInt8 → List UInt8} {G : PGroup} {ms : List MInfo} {rv : Value} (h : GAt w g FS φ G ms rv) {i : Nat} {x : MInfo} (hx : ms[i]? = some x) : w.cell? ⟨g, 1 + i, none⟩ = some (.pointer (some ⟨x.mb, 0, none⟩)) ∧ i < 5 := by
 have hi : i < 5 := by
  have := h.five
  rcases Nat.lt_or_ge i ms.length with h1 | h1
  ·omega
  ·rw [List.getElem?_eq_none h1] at hx; cases hx
 refine ⟨?_, hi⟩
 rw [cell_of_blk h.blk, groupArr_mem _ _ _ _ _ hi]
 unfold ptrAt
 rw [hx]
theorem GAt.info {w : World} {g : Nat} {FS : Nat → Nat → Prop} {φ : List UInt8 → List UInt8} {G : PGroup} {ms : List MInfo} {rv : Value} (h : GAt w g FS φ G ms rv) {i : Nat} {m : PMem} (hm : G.mem[i]? = some m) : ∃ x, ms[i]? = some x := by
 refine ⟨_, List.getElem?_eq_getElem (h := ?_)⟩
 rw [h.len]
 rcases Nat.lt_or_ge i G.mem.length with h1 | h1
 ·exact h1
 ·rw [List.getElem?_eq_none h1] at hm; cases hm
theorem tick_some {G G' : PGroup} {i : Nat} (hs : G.tick i = some G') : ∃ m, G.mem[i]? = some m ∧ ((m.up = false ∧ G = G') ∨ (m.up = true ∧ ∃ l T', m.N.tickP G.draw = some (l, T') ∧ G.stir.went i m l T' = some G')) := by
 unfold PGroup.tick at hs
 cases hm : G.mem[i]? with
 | none => rw [hm] at hs; cases hs
 | some m =>
 rw [hm] at hs
 refine ⟨m, rfl, ?_⟩
 cases hu : m.up with
 | false =>
  refine .inl ⟨rfl, ?_⟩
  simpa [hu] using hs
 | true =>
  refine .inr ⟨rfl, ?_⟩
  simp only [hu, if_true] at hs
  generalize G.stir = Gs at hs ⊢
  generalize G.draw = dr at hs ⊢
  cases ht : m.N.tickP dr with
  | none => rw [ht] at hs; cases hs
  | some q =>
   rw [ht] at hs
   exact ⟨q.1, q.2, rfl, hs⟩
end Go.Proofs.YtgglbholbkdgfaaGreatDoor
namespace Go.Proofs.YtgglbholbkdgfaaGreatDoor
open Go.RowKit
theorem stir_mem (G : PGroup) : G.stir.mem = G.mem := by rw [stir_eq]
set_option maxRecDepth 100000 in
set_option maxHeartbeats 4000000 in
theorem tick_any {φ : List UInt8 → List UInt8} (hφ : Tok φ) (g i : Nat) (FS : Nat → Nat → Prop) (G G' : PGroup) (ms : List MInfo) (rv : Value) (w : World) (h : GAt w g FS φ G ms rv) (hs : G.tick i = some G') :
  Calls Tryz.prog 93 #[.pointer (some ⟨g, 0, none⟩), .int .i64 (i : Int)] w fun e w' => e = .returned (.tuple #[]) ∧ GStep w w' g FS φ G' := by
 obtain ⟨m, hm, hs⟩ := tick_some hs
 obtain ⟨x, hx⟩ := h.info hm
 obtain ⟨cp, hi5⟩ := h.ptr hx
 have hmi := h.mem i x m hx hm
 have cm1 : w.cell? ⟨x.mb, 1, none⟩ = some x.p := by rw [cell_of_blk hmi.blk]; rfl
 have hi0 : (0 : Int) ≤ (i : Int) := by omega
 have hi5' : (i : Int) < 5 := by omega
 have hin : ((i : Int)).toNat = i := by omega
 rcases hmi.node with ⟨hup, r, hp, hN⟩ | ⟨hup, hp, _⟩
 ·obtain ⟨l, T', ht, hs⟩ : ∃ l T', m.N.tickP G.draw = some (l, T') ∧ G.stir.went i m l T' = some G' := by
   rcases hs with ⟨h1, _⟩ | ⟨_, h1⟩
   ·rw [hup] at h1; cases h1
   ·exact h1
  rw [hp] at cm1
  have hmg : x.mb ≠ g := fun e => by
   have := hmi.blk
   rw [e, h.blk] at this
   cases this
  obtain ⟨dr, hdr⟩ : ∃ dr, G.draw = dr := ⟨_, rfl⟩
  obtain ⟨Gs, hGs⟩ : ∃ Gs, G.stir = Gs := ⟨_, rfl⟩
  have hGm : Gs.mem[i]? = some m := by rw [← hGs, stir_mem]; exact hm
  rw [hdr] at ht
  rw [hGs] at hs
  have H := Lib.hid (And.intro h.self (fun (w' : World) (x : Ext NoB w w') => by
   have := (h.no x).draw
   rw [hdr, hGs] at this
   exact this))
  have Hx := Lib.hid (And.intro hx (And.intro hGm (And.intro hup hp)))
  have Hs := Lib.hid hs
  have Ht := Lib.hid ht
  have HN := Lib.hid hN
  obtain ⟨mb, hmbE⟩ : ∃ mb, x.mb = mb := ⟨_, rfl⟩
  rw [hmbE] at cm1 cp hmg
  have HmbE := Lib.hid hmbE
  clear h hx hm hup hp hs ht hN hmi hmbE hGm hdr hGs
  go_enter Tryz.func93, Tryz.ntmps93
  go_wp2_with fail
  refine wp_region_N (fun w' => w'.cell? ⟨mb, 1, none⟩ = some (.pointer (some ⟨r, 0, none⟩))) 8 (by kernel_rfl) ?_
  have hSd : w.drew.cell? ⟨mb, 1, none⟩ = some (.pointer (some ⟨r, 0, none⟩)) := cm1
  have xd : Ext NoB w w.drew := (Ext.refl _ w).drew
  generalize w.drew = wd at hSd xd ⊢
  refine wpAnyN_free 0 (v := ?_) (by kernel_rfl) rfl (fun _ _ _ h => h) hSd (by rfl) ?_ ?_; rotate_left; (focus (intro w; go_simp; try with_reducible rfl)); (try simp only [Act.put]); (try simp only [List.setIfInBounds_toArray, List.set_cons_zero, List.set_cons_succ])
  refine wpAnyN_free 1 (v := ?_) (by kernel_rfl) rfl (fun _ _ _ h => h) hSd (by rfl) ?_ ?_; rotate_left; (focus (intro w; go_simp; try with_reducible rfl)); (try simp only [Act.put]); (try simp only [List.setIfInBounds_toArray, List.set_cons_zero, List.set_cons_succ])
  refine wpAnyN_free 2 (v := ?_) (by kernel_rfl) rfl (fun _ _ _ h => h) hSd (by rfl) ?_ ?_; rotate_left; (focus (intro w; go_simp; try with_reducible rfl)); (try simp only [Act.put]); (try simp only [List.setIfInBounds_toArray, List.set_cons_zero, List.set_cons_succ])
  refine wpAnyN_free 3 (v := ?_) (by kernel_rfl) rfl (fun _ _ _ h => h) hSd (by rfl) ?_ ?_; rotate_left; (focus (intro w; go_simp; try with_reducible rfl)); (try simp only [Act.put]); (try simp only [List.setIfInBounds_toArray, List.set_cons_zero, List.set_cons_succ])
  refine wpAnyN_free 4 (v := ?_) (by kernel_rfl) rfl (fun _ _ _ h => h) hSd (by rfl) ?_ ?_; rotate_left; (focus (intro w; go_simp; try with_reducible rfl)); (try simp only [Act.put]); (try simp only [List.setIfInBounds_toArray, List.set_cons_zero, List.set_cons_succ])
  refine wpAnyN_take 5 (v := ?_) (by kernel_rfl) rfl (fun _ _ _ h => h) hSd (by rfl) ?_ ?_; rotate_left; (focus (intro w hSw; (try dsimp only at hSw); go_simp; try with_reducible rfl)); (try simp only [Act.put]); (try simp only [List.setIfInBounds_toArray, List.set_cons_zero, List.set_cons_succ])
  refine wpAnyN_free 6 (v := ?_) (by kernel_rfl) rfl (fun _ _ _ h => h) hSd (by rfl) ?_ ?_; rotate_left; (focus (intro w; go_simp; try with_reducible rfl)); (try simp only [Act.put]); (try simp only [List.setIfInBounds_toArray, List.set_cons_zero, List.set_cons_succ])
  refine wpAnyN_one 7 (by kernel_rfl) (by simp only [List.getElem?_toArray, List.getElem?_cons_succ, List.getElem?_cons_zero] <;> rfl) (by rfl) (fun K hK => ?_)
  go_simp
  have Hd := Lib.hid (H.out.2 wd xd)
  have Hxd := Lib.hid xd
  clear cm1 cp xd
  refine Hd.out.mono ?_; rintro e w1 ⟨rfl, h1, x1⟩
  have hS1 := x1.cell hSd hmg
  have H1 := Lib.hid h1
  have Hx1 := Lib.hid x1
  clear h1 x1
  go_wp2_with fail
  refine hK.out _ _ hS1 (fun hSd => ?_)
  clear hK K hSd
  (try simp only [Act.put]); (try simp only [List.setIfInBounds_toArray, List.set_cons_zero, List.set_cons_succ])
  refine wpAnyN_tail (by rfl) (by decide) (by kernel_rfl) (by kernel_rfl) ?_
  simp only [List.drop_succ_cons, List.drop_zero]
  clear hS1
  go_wp2_with fail
  obtain ⟨hx, hm, hup, hp⟩ := Hx.out
  have hN1 : NodeQ w1 r x.d (FS (i + 1)) φ m.N := by
   rcases (H1.out.mem i x m hx hm).node with ⟨_, r', hp', h⟩ | ⟨h, _⟩
   ·rw [hp] at hp'
    cases hp'
    exact h
   ·rw [hup] at h; cases h
  refine (Tick_Q hφ r x.d (FS (i + 1)) m.N T' l dr w1 hN1 Ht.out).mono ?_; rintro e w2 ⟨v, rfl, hmsg, hfr, x12, hN2⟩
  have Hw := Lib.hid (H1.out.went hφ hx hm hup hp x12 hN2 hmsg hfr Hs.out)
  rw [HmbE.out] at Hw
  clear hx hm hup hp hN1 hmsg hfr x12 hN2
  go_wp2_with fail
  refine Hw.out.mono ?_; rintro e w3 ⟨rfl, hst⟩
  have Hst := Lib.hid hst
  clear hst
  go_wp2_with fail
  go_end0
  refine ⟨rfl, Hst.out.pre ((Hxd.out.of_no).trans (Hx1.out.mono (fun b _ hb => ⟨0, hb ▸ H.out.1⟩)))⟩
 ·obtain rfl : G = G' := by
   rcases hs with ⟨_, h1⟩ | ⟨h1, _⟩
   ·exact h1
   ·rw [hup] at h1; cases h1
  rw [hp] at cm1
  have H := Lib.hid (GStep.refl h)
  obtain ⟨mb, hmbE⟩ : ∃ mb, x.mb = mb := ⟨_, rfl⟩
  rw [hmbE] at cm1 cp
  clear h hx hm hup hp hs hmi hmbE
  go_enter Tryz.func93, Tryz.ntmps93
  go_wp2_with fail
  go_end0
  exact ⟨rfl, H.out⟩
end Go.Proofs.YtgglbholbkdgfaaGreatDoor
namespace Go.Proofs.YtgglbholbkdgfaaGreatDoor
open Go.RowKit
theorem GStep.trans {w w1 w2 : World} {g : Nat} {FS FS1 : Nat → Nat → Prop} {φ : List UInt8 → List UInt8} {G2 : PGroup} (x : Ext (fun b => ∃ k, FS k b) w w1) (hF : ∀ k b, FS1 k b → (∃ j, FS j b) ∨ w.heap.size ≤ b) (h : GStep w1 w2 g FS1 φ G2) : GStep w w2 g FS φ G2 := by
 obtain ⟨FS', ms', rv', h1, h2, h3⟩ := h
 refine ⟨FS', ms', rv', h1, x.next h2 (fun b hb hl => ?_), fun k b hb => ?_⟩
 ·obtain ⟨k, hb⟩ := hb
  rcases hF k b hb with h | h
  ·exact h
  ·omega
 ·rcases h3 k b hb with ⟨j, h⟩ | h
  ·exact hF j b h
  ·exact .inr (Nat.le_trans x.size h)
set_option maxRecDepth 100000 in
set_option maxHeartbeats 4000000 in
theorem ticks_any {φ : List UInt8 → List UInt8} (hφ : Tok φ) (g : Nat) (FS : Nat → Nat → Prop) (G G' : PGroup) (ms : List MInfo) (rv : Value) (w : World) (h : GAt w g FS φ G ms rv) (hs : G.ticksN G.n 0 = some G') :
  Calls Tryz.prog 60 #[.pointer (some ⟨g, 0, none⟩)] w fun e w' => e = .returned (.tuple #[]) ∧ GStep w w' g FS φ G' := by
 have c0 : w.cell? ⟨g, 0, none⟩ = some (.int .i64 (G.n : Int)) := by rw [cell_of_blk h.blk]; rfl
 obtain ⟨n, hn⟩ : ∃ n, G.n = n := ⟨_, rfl⟩
 have hn5 := h.n
 have H := Lib.hid (And.intro (GStep.refl h) hs)
 rw [hn] at c0 hn5 H
 clear h hs hn
 go_enter Tryz.func60, Tryz.ntmps60
 go_wp2_with fail
 go_loopw [2, 7] (fun _ i wr => ∃ (k : Nat) (Gk : PGroup), i = .int .i64 (k : Int) ∧ k ≤ n ∧ Hid (GStep w wr g FS φ Gk) ∧ Hid (Gk.ticksN (n - k) k = some G')) (fun _ i _ => n - (intOf i).toNat)
 case atStart => exact ⟨0, G, rfl, by omega, Lib.hid H.out.1, Lib.hid H.out.2⟩
 case round =>
  obtain ⟨k, Gk, rfl, hk, HG, Ht⟩ := hrel
  by_cases hlt : k < n
  ·obtain ⟨G1, h1, h2⟩ : ∃ G1, Gk.tick k = some G1 ∧ G1.ticksN (n - (k + 1)) (k + 1) = some G' := by
    have := Ht.out
    obtain ⟨q, hq⟩ : ∃ q, n - k = q + 1 := ⟨n - k - 1, by omega⟩
    have hq2 : n - (k + 1) = q := by omega
    rw [hq, PGroup.ticksN] at this
    rw [hq2]
    cases ht : Gk.tick k with
    | none => rw [ht] at this; cases this
    | some G1 =>
     rw [ht] at this
     exact ⟨G1, rfl, this⟩
   have hk0 : (k : Int) < (n : Int) := by omega
   have hwk : IntKind.i64.wrap ((k : Int) + 1) = (k : Int) + 1 := IntWalk.i64_in _ (by omega)
   obtain ⟨FS1, ms1, rv1, hA, hX, hF⟩ := HG.out
   have Htick := Lib.hid (tick_any hφ g k FS1 Gk G1 ms1 rv1 wr hA h1)
   have H2 := Lib.hid h2
   have HX := Lib.hid hX
   have HF := Lib.hid hF
   clear hA hX hF h1 h2
   go_wp2_with fail
   refine Htick.out.mono ?_; rintro e w2 ⟨rfl, hst⟩
   have Hst := Lib.hid (GStep.trans HX.out HF.out hst)
   clear hst
   go_wp2_with fail
   go_roundw
   case rel => exact ⟨k + 1, G1, by go_num, by omega, Hst, H2⟩
   case measure => simp [intOf]; omega
  ·obtain rfl : k = n := by omega
   have hGG : Gk = G' := by
    have := Ht.out
    rw [Nat.sub_self, PGroup.ticksN] at this
    exact Option.some.inj this
   subst hGG
   go_wp2_with fail
   go_end0
   exact ⟨rfl, HG.out⟩
end Go.Proofs.YtgglbholbkdgfaaGreatDoor
namespace Go.Proofs.YtgglbholbkdgfaaGreatDoor
open Go.RowKit
theorem groupArr_row (n : Nat) (ms : List MInfo) (rv rv' : Value) (d : Nat) : (groupArr n ms rv d).setIfInBounds 6 rv' = groupArr n ms rv' d := rfl
theorem GAt.take {w : World} {g : Nat} {FS : Nat → Nat → Prop} {φ : List UInt8 → List UInt8} {G : PGroup} {ms : List MInfo} {rv : Value} (h : GAt w g FS φ G ms rv) {x : QMsg} {l : List QMsg} (hr : G.row = x :: l) :
  Calls Tryz.prog 63 #[.pointer (some ⟨g, 6, none⟩), .int .i64 ((0 : Nat) : Int)] w fun e w' => ∃ lv, e = .returned (.tuple #[.agg lv.toArray, .bool true]) ∧ MsgNew w w' lv (x.real φ) ∧ Ext (FS 0) w w' ∧ ∃ rv', GAt w' g FS φ { G with row := l } ms rv' := by
 refine (Take_yes g 0 (FS 0) _ 118 rv (G.row.map (QMsg.real φ)) (x.real φ) w h.blk (by decide) rfl h.self (h.lt 0) h.row (by rw [hr]; rfl) (by rw [List.length_map]; have := h.flight; omega)).mono ?_
 rintro e w' ⟨lv, rfl, hm, x1, rv', hb, hR⟩
 have hrvF : ∀ b, rv.ownBlock = some b → FS 0 b := by
  obtain ⟨_, _, _, h⟩ := h.row
  exact h
 have hsub : ∀ b, (b = g ∨ rv.ownBlock = some b) → FS 0 b := fun b hb => hb.elim (fun h1 => h1 ▸ h.self) (hrvF b)
 have hty : ∀ b, (b = g ∨ rv.ownBlock = some b) → ∃ cs t fr, w.heap[b]? = some (.cells cs t fr) ∧ t ≠ 5 ∧ t ≠ 50 ∧ t ≠ 120 := fun b hb => by
  rcases hb with h1 | h1
  ·exact ⟨_, _, _, h1 ▸ h.blk, by decide, by decide, by decide⟩
  ·obtain ⟨_, _, h2, _⟩ := h.row
   obtain ⟨cs, fr, h3⟩ := own_type h2 b h1
   exact ⟨cs, _, fr, h3, by decide, by decide, by decide⟩
 refine ⟨lv, rfl, hm, x1.mono (fun b _ hb => hsub b hb), rv', ?_⟩
 rw [groupArr_row] at hb
 refine ⟨hb, h.self, fun k b hb => Nat.lt_of_lt_of_le (h.lt k b hb) x1.size, h.apart, ?_, h.draws, h.n, h.len, h.five, fun i a m h1 h2 => ?_, h.mbs, ?_, h.tks⟩
 ·rw [hr] at hR
  exact hR
 ·have hmi := h.mem i a m h1 h2
  refine ⟨x1.blk hmi.blk (fun e => ?_), hmi.own, hmi.node.ext x1 (fun b hb hb' => ?_), hmi.tak.ty x1 (fun b hb => ?_)⟩
  ·obtain ⟨cs, t, fr, a1, _, _, a2⟩ := hty _ e
   rw [hmi.blk] at a1
   cases a1
   exact a2 rfl
  ·have := h.apart _ _ _ hb (hsub b hb')
   omega
  ·obtain ⟨cs, t, fr, a1, a2, a3, _⟩ := hty b hb
   exact ⟨cs, t, fr, a1, a2, a3⟩
 ·have := h.flight
  rw [hr, List.length_cons] at this
  show l.length ≤ 4000
  omega
theorem give_some {G G' : PGroup} {bb : Bool} (hs : G.give = some (bb, G')) : (G.row = [] ∧ bb = false ∧ G = G') ∨ ∃ x l m, G.row = x :: l ∧ G.mem[x.tt]? = some m ∧ bb = true ∧ ((m.up = false ∧ { G with row := l } = G') ∨ (m.up = true ∧ ∃ q T', m.N.hearP x G.draw = some (q, T') ∧ ({ G with row := l } : PGroup).stir.went x.tt m q T' = some G')) := by
 unfold PGroup.give at hs
 cases hr : G.row with
 | nil =>
  rw [hr] at hs
  simp only [Option.some.injEq, Prod.mk.injEq] at hs
  exact .inl ⟨rfl, hs.1.symm, hs.2⟩
 | cons x l =>
  rw [hr] at hs
  dsimp only at hs
  cases hm : G.mem[x.tt]? with
  | none => rw [hm] at hs; cases hs
  | some m =>
   rw [hm] at hs
   dsimp only at hs
   refine .inr ⟨x, l, m, rfl, hm, ?_⟩
   cases hu : m.up with
   | false =>
    simp only [hu, Bool.false_eq_true, if_false, Option.some.injEq, Prod.mk.injEq] at hs
    exact ⟨hs.1.symm, .inl ⟨rfl, hs.2⟩⟩
   | true =>
    simp only [hu, if_true] at hs
    generalize ({ G with row := l } : PGroup).stir = Gs at hs ⊢
    generalize G.draw = dr at hs ⊢
    cases ht : m.N.hearP x dr with
    | none => rw [ht] at hs; cases hs
    | some q =>
     rw [ht] at hs
     dsimp only at hs
     cases hw : Gs.went x.tt m q.1 q.2 with
     | none => rw [hw] at hs; cases hs
     | some G2 =>
      rw [hw] at hs
      simp only [Option.some.injEq, Prod.mk.injEq] at hs
      exact ⟨hs.1.symm, .inr ⟨rfl, q.1, q.2, rfl, by rw [hw, hs.2]⟩⟩
end Go.Proofs.YtgglbholbkdgfaaGreatDoor
namespace Go.Proofs.YtgglbholbkdgfaaGreatDoor
open Go.RowKit
set_option maxRecDepth 100000 in
theorem hasG (g n tt : Nat) (w : World) (hc : w.cell? ⟨g, 0, none⟩ = some (.int .i64 (n : Int))) (hi : tt < n) :
  Calls Tryz.prog 58 #[.pointer (some ⟨g, 0, none⟩), .int .i64 (tt : Int)] w fun e w' => e = .returned (.bool true) ∧ w' = w := by
 have h1 : (0 : Int) ≤ (tt : Int) := by omega
 have h2 : (tt : Int) < (n : Int) := by omega
 go_enter Tryz.func58, Tryz.ntmps58
 go_wp2_with fail
 go_ret
 exact ⟨rfl, rfl⟩
set_option maxRecDepth 100000 in
set_option maxHeartbeats 4000000 in
theorem gives_none (g : Nat) (FS : Nat → Nat → Prop) (φ : List UInt8 → List UInt8) (G : PGroup) (ms : List MInfo) (rv : Value) (w : World) (h : GAt w g FS φ G ms rv) (hr : G.row = []) :
  Calls Tryz.prog 61 #[.pointer (some ⟨g, 0, none⟩), .int .i64 0] w fun e w' => e = .returned (.bool false) ∧ GStep w w' g FS φ G := by
 have H := Lib.hid h
 obtain ⟨ra, rc, hrv⟩ := h.row.shape
 rw [hr, List.map_nil, List.length_nil] at hrv
 have c6 : w.cell? ⟨g, 6, none⟩ = some (.slice ra 0 rc) := by rw [cell_of_blk h.blk, ← hrv]; rfl
 have htake := Take_no g 0 ra 0 rc w c6 (by omega)
 have Htake := Lib.hid htake
 clear h hr hrv c6 htake
 go_enter Tryz.func61, Tryz.ntmps61
 go_wp2_with fail
 refine Htake.out.mono ?_; rintro e w1 ⟨rfl, x1⟩
 have Hx1 := Lib.hid x1
 clear x1
 go_wp2_with fail
 go_ret
 refine ⟨rfl, FS, ms, rv, (H.out.no Hx1.out).no ((Ext.refl NoB w1).alloc _), (Hx1.out.of_no).trans ((Ext.refl NoB w1).alloc _).of_no, fun k b hb => .inl ⟨k, hb⟩⟩
set_option maxRecDepth 100000 in
set_option maxHeartbeats 4000000 in
theorem gives_some {φ : List UInt8 → List UInt8} (hφ : Tok φ) (g : Nat) (FS : Nat → Nat → Prop) (G G' : PGroup) (ms : List MInfo) (rv : Value) (w : World) (h : GAt w g FS φ G ms rv) (hall : G.mem.length = G.n) (x : QMsg) (l : List QMsg) (m : PMem) (hr : G.row = x :: l) (hm : G.mem[x.tt]? = some m)
  (hs : (m.up = false ∧ { G with row := l } = G') ∨ (m.up = true ∧ ∃ q T', m.N.hearP x G.draw = some (q, T') ∧ ({ G with row := l } : PGroup).stir.went x.tt m q T' = some G')) :
  Calls Tryz.prog 61 #[.pointer (some ⟨g, 0, none⟩), .int .i64 0] w fun e w' => e = .returned (.bool true) ∧ GStep w w' g FS φ G' := by
 obtain ⟨tt, htt⟩ : ∃ tt, x.tt = tt := ⟨_, rfl⟩
 rw [htt] at hm hs
 have htl : tt < G.n := by
  rw [← hall]
  rcases Nat.lt_or_ge tt G.mem.length with h1 | h1
  ·exact h1
  ·rw [List.getElem?_eq_none h1] at hm; cases hm
 obtain ⟨y, hy⟩ := h.info hm
 have htake := h.take hr
 obtain ⟨G1, hG1⟩ : ∃ G1, ({ G with row := l } : PGroup) = G1 := ⟨_, rfl⟩
 have hm1 : G1.mem[tt]? = some m := by rw [← hG1]; exact hm
 have hn1 : G1.n = G.n := by rw [← hG1]
 have hd1 : G1.draw = G.draw := by rw [← hG1]; unfold PGroup.draw PGroup.stir; rfl
 rw [hG1] at htake hs
 rw [← hd1] at hs
 have hself := h.self
 have hgw := h.lt 0 g h.self
 have Htake := Lib.hid htake
 have Hall := Lib.hid (And.intro hm1 (And.intro hy (And.intro hn1 (And.intro htl htt))))
 have Hs := Lib.hid hs
 have Hself := Lib.hid hself
 have Hlt := Lib.hid h.lt
 clear h hall hr hm hs htl hy htake hG1 hm1 hn1 hd1 hself
 go_enter Tryz.func61, Tryz.ntmps61
 go_wp2_with fail
 refine Htake.out.mono ?_; rintro e w1 ⟨lv, rfl, hmn, x1, rv1, h1⟩
 obtain ⟨na, nn, nc, da, dn, dc, rfl, on, od, fn, fd⟩ := agg5 hmn
 have H1 := Lib.hid h1
 have Hx1 := Lib.hid x1
 have Ho1 := Lib.hid (And.intro on (And.intro od (And.intro fn fd)))
 have hgw1 : g < w1.heap.size := Nat.lt_of_lt_of_le hgw x1.size
 have e2t : (x.real φ).tt = (tt : Int) := by show (x.tt : Int) = _; rw [Hall.out.2.2.2.2]
 obtain ⟨frI, hfrI⟩ : ∃ q, (x.real φ).fr = q := ⟨_, rfl⟩
 obtain ⟨kdI, hkdI⟩ : ∃ q, (x.real φ).kd = q := ⟨_, rfl⟩
 rw [hfrI, hkdI, e2t]
 have Hfk := Lib.hid (And.intro hfrI hkdI)
 clear h1 x1 hmn on od fn fd hfrI hkdI e2t
 go_wp2_with fail
 obtain ⟨w2, B, e1, e2, x2, b2, hs2⟩ := alloc_facts w1 (.cells #[.int .i64 frI, .int .i64 (tt : Int), .int .i64 kdI, .slice na nn nc, .slice da dn dc] 37)
 rw [e1, e2]
 have h2 := H1.out.no x2
 obtain ⟨hm1, hy, hn1, htl, htt'⟩ := Hall.out
 have hmi := h2.mem tt y m hy hm1
 obtain ⟨cp, h5⟩ := h2.ptr hy
 have c0 : w2.cell? ⟨g, 0, none⟩ = some (.int .i64 (G.n : Int)) := by rw [cell_of_blk h2.blk, ← hn1]; rfl
 have cm1 : w2.cell? ⟨y.mb, 1, none⟩ = some y.p := by rw [cell_of_blk hmi.blk]; rfl
 have cB1 : w2.cell? ⟨B, 1, none⟩ = some (.int .i64 (tt : Int)) := by rw [cell_of_blk b2]; rfl
 have hmg : y.mb ≠ g := fun e => by
  have := hmi.blk
  rw [e, h2.blk] at this
  cases this
 have hnode := hmi.node
 obtain ⟨mb, hmbE⟩ : ∃ mb, y.mb = mb := ⟨_, rfl⟩
 rw [hmbE] at cm1 cp hmg
 have Hb2 := Lib.hid b2
 have Hx2 := Lib.hid x2
 have H2 := Lib.hid h2
 have HmbE := Lib.hid hmbE
 have HB := Lib.hid e2
 have hhas := hasG g G.n tt w2 c0 htl
 have hgB : B ≠ g := by omega
 have t0 : (0 : Int) ≤ (tt : Int) := by omega
 have t5 : (tt : Int) < 5 := by omega
 have tn : ((tt : Int)).toNat = tt := by omega
 have hBw := lt_of_blk b2
 clear e1 x2 b2 hs2 h2 hmi hmbE c0 hy hm1 hn1 htl htt'
 refine hhas.mono ?_; rintro e w3 ⟨rfl, rfl⟩
 rcases hnode with ⟨hup, r, hp, hN⟩ | ⟨hup, hp, _⟩
 ·obtain ⟨q, T', hh, hs⟩ : ∃ q T', m.N.hearP x G1.draw = some (q, T') ∧ G1.stir.went tt m q T' = some G' := by
   rcases Hs.out with ⟨h1, _⟩ | ⟨_, h1⟩
   ·rw [hup] at h1; cases h1
   ·exact h1
  rw [hp] at cm1
  obtain ⟨dr, hdr⟩ : ∃ dr, G1.draw = dr := ⟨_, rfl⟩
  obtain ⟨Gs, hGs⟩ : ∃ Gs, G1.stir = Gs := ⟨_, rfl⟩
  have hGm : Gs.mem[tt]? = some m := by rw [← hGs, stir_mem]; exact Hall.out.1
  rw [hdr] at hh
  rw [hGs] at hs
  have Hdraw := Lib.hid (fun (w' : World) (x : Ext NoB w3 w') => by
   have := (H2.out.no x).draw
   rw [hdr, hGs] at this
   exact this)
  have Hu := Lib.hid (And.intro hh (And.intro hs (And.intro hGm (And.intro hup hp))))
  clear hh hs hGm hup hp hdr hGs hN hhas
  go_wp2_with fail
  go_quiet (fail)
  go_wp2_with fail
  have xq : Ext NoB w3 (w3.drewN nq) := (Ext.refl _ w3).drewN _
  generalize w3.drewN nq = w4 at xq ⊢
  have dm1 := xq.cell cm1 (fun h => h)
  have b4 := xq.blk Hb2.out (fun h => h)
  have dB0 : w4.cell? ⟨B, 0, none⟩ = some (.int .i64 frI) := by rw [cell_of_blk b4]; rfl
  have dB1 : w4.cell? ⟨B, 1, none⟩ = some (.int .i64 (tt : Int)) := by rw [cell_of_blk b4]; rfl
  have dB2 : w4.cell? ⟨B, 2, none⟩ = some (.int .i64 kdI) := by rw [cell_of_blk b4]; rfl
  have dB3 : w4.cell? ⟨B, 3, none⟩ = some (.slice na nn nc) := by rw [cell_of_blk b4]; rfl
  have dB4 : w4.cell? ⟨B, 4, none⟩ = some (.slice da dn dc) := by rw [cell_of_blk b4]; rfl
  clear cm1 cp cB1 b4
  refine wp_region_N (fun w' => w'.cell? ⟨mb, 1, none⟩ = some (.pointer (some ⟨r, 0, none⟩)) ∧ w'.cell? ⟨B, 0, none⟩ = some (.int .i64 frI) ∧ w'.cell? ⟨B, 1, none⟩ = some (.int .i64 (tt : Int)) ∧ w'.cell? ⟨B, 2, none⟩ = some (.int .i64 kdI) ∧ w'.cell? ⟨B, 3, none⟩ = some (.slice na nn nc) ∧ w'.cell? ⟨B, 4, none⟩ = some (.slice da dn dc)) 9 (by kernel_rfl) ?_
  have hSd : w4.drew.cell? ⟨mb, 1, none⟩ = some (.pointer (some ⟨r, 0, none⟩)) ∧ w4.drew.cell? ⟨B, 0, none⟩ = some (.int .i64 frI) ∧ w4.drew.cell? ⟨B, 1, none⟩ = some (.int .i64 (tt : Int)) ∧ w4.drew.cell? ⟨B, 2, none⟩ = some (.int .i64 kdI) ∧ w4.drew.cell? ⟨B, 3, none⟩ = some (.slice na nn nc) ∧ w4.drew.cell? ⟨B, 4, none⟩ = some (.slice da dn dc) := ⟨dm1, dB0, dB1, dB2, dB3, dB4⟩
  have xd : Ext NoB w4 w4.drew := (Ext.refl _ w4).drew
  generalize w4.drew = wd at hSd xd ⊢
  clear dm1 dB0 dB1 dB2 dB3 dB4
  refine wpAnyN_free 0 (v := ?_) (by kernel_rfl) rfl (fun _ _ _ h => h) hSd (by rfl) ?_ ?_; rotate_left; (focus (intro w; go_simp; try with_reducible rfl)); (try simp only [Act.put]); (try simp only [List.setIfInBounds_toArray, List.set_cons_zero, List.set_cons_succ])
  refine wpAnyN_free 1 (v := ?_) (by kernel_rfl) rfl (fun _ _ _ h => h) hSd (by rfl) ?_ ?_; rotate_left; (focus (intro w; go_simp; try with_reducible rfl)); (try simp only [Act.put]); (try simp only [List.setIfInBounds_toArray, List.set_cons_zero, List.set_cons_succ])
  refine wpAnyN_free 2 (v := ?_) (by kernel_rfl) rfl (fun _ _ _ h => h) hSd (by rfl) ?_ ?_; rotate_left; (focus (intro w; go_simp; try with_reducible rfl)); (try simp only [Act.put]); (try simp only [List.setIfInBounds_toArray, List.set_cons_zero, List.set_cons_succ])
  refine wpAnyN_free 3 (v := ?_) (by kernel_rfl) rfl (fun _ _ _ h => h) hSd (by rfl) ?_ ?_; rotate_left; (focus (intro w; go_simp; try with_reducible rfl)); (try simp only [Act.put]); (try simp only [List.setIfInBounds_toArray, List.set_cons_zero, List.set_cons_succ])
  refine wpAnyN_free 4 (v := ?_) (by kernel_rfl) rfl (fun _ _ _ h => h) hSd (by rfl) ?_ ?_; rotate_left; (focus (intro w; go_simp; try with_reducible rfl)); (try simp only [Act.put]); (try simp only [List.setIfInBounds_toArray, List.set_cons_zero, List.set_cons_succ])
  refine wpAnyN_take 5 (v := ?_) (by kernel_rfl) rfl (fun _ _ _ h => h) hSd (by rfl) ?_ ?_; rotate_left; (focus (intro w hSw; (try dsimp only at hSw); go_simp; try with_reducible rfl)); (try simp only [Act.put]); (try simp only [List.setIfInBounds_toArray, List.set_cons_zero, List.set_cons_succ])
  refine wpAnyN_take 6 (v := ?_) (by kernel_rfl) rfl (fun _ _ _ h => h) hSd (by rfl) ?_ ?_; rotate_left; (focus (intro w hSw; (try dsimp only at hSw); go_simp; try with_reducible rfl)); (try simp only [Act.put]); (try simp only [List.setIfInBounds_toArray, List.set_cons_zero, List.set_cons_succ])
  refine wpAnyN_free 7 (v := ?_) (by kernel_rfl) rfl (fun _ _ _ h => h) hSd (by rfl) ?_ ?_; rotate_left; (focus (intro w; go_simp; try with_reducible rfl)); (try simp only [Act.put]); (try simp only [List.setIfInBounds_toArray, List.set_cons_zero, List.set_cons_succ])
  refine wpAnyN_one 8 (by kernel_rfl) (by simp only [List.getElem?_toArray, List.getElem?_cons_succ, List.getElem?_cons_zero] <;> rfl) (by rfl) (fun K hK => ?_)
  go_simp
  have Hxd := Lib.hid (xq.trans xd)
  have Hd := Lib.hid (Hdraw.out wd (xq.trans xd))
  clear xq xd
  refine Hd.out.mono ?_; rintro e w5 ⟨rfl, h5', x5⟩
  have hS5 := And.intro (x5.cell hSd.1 hmg) (And.intro (x5.cell hSd.2.1 hgB) (And.intro (x5.cell hSd.2.2.1 hgB) (And.intro (x5.cell hSd.2.2.2.1 hgB) (And.intro (x5.cell hSd.2.2.2.2.1 hgB) (x5.cell hSd.2.2.2.2.2 hgB)))))
  have H5 := Lib.hid h5'
  have Hx5 := Lib.hid x5
  clear h5' x5
  go_wp2_with fail
  refine hK.out _ _ hS5 (fun hSd => ?_)
  clear hK K hSd
  (try simp only [Act.put]); (try simp only [List.setIfInBounds_toArray, List.set_cons_zero, List.set_cons_succ])
  refine wpAnyN_tail (by rfl) (by decide) (by kernel_rfl) (by kernel_rfl) ?_
  simp only [List.drop_succ_cons, List.drop_zero]
  clear hS5
  go_wp2_with fail
  obtain ⟨hh, hs, hGm, hup, hp⟩ := Hu.out
  have hy : ms[tt]? = some y := Hall.out.2.1
  have hN5 : NodeQ w5 r y.d (FS (tt + 1)) φ m.N := by
   rcases (H5.out.mem tt y m hy hGm).node with ⟨_, r', hp', h⟩ | ⟨h, _⟩
   ·rw [hp] at hp'
    cases hp'
    exact h
   ·rw [hup] at h; cases h
  have xB : Ext NoB w1 wd := Hx2.out.trans Hxd.out
  obtain ⟨on, od, fn, fd⟩ := Ho1.out
  have hlt5 := H1.out.lt
  have hon : Own w5 3 1 (.slice na nn nc) (intsV (x.real φ).nums) := (on.no xB).ext Hx5.out (fun b hb hb' => by
   have h1 := fn b hb
   have h2 : b = g := hb'
   omega)
  have hod : Own w5 5 1 (.slice da dn dc) (bytesV (x.real φ).data) := (od.no xB).ext Hx5.out (fun b hb hb' => by
   have h1 := fd b hb
   have h2 : b = g := hb'
   omega)
  have hFw : ∀ b, FS (tt + 1) b → b < w.heap.size := Hlt.out (tt + 1)
  have e1 : nn = x.nums.length := by
   obtain ⟨_, _, _, hv, h1, _⟩ := hon.rd
   cases hv
   have h2 : (x.real φ).nums.length = x.nums.length := List.length_map _
   rw [intsV_length, h2] at h1
   omega
  have e2' : dn = (entsB (x.es.map (subE φ))).length := by
   obtain ⟨_, _, _, hv, h1, _⟩ := hod.rd
   cases hv
   rw [bytesV_length] at h1
   have h2 : (x.real φ).data = entsB (x.es.map (subE φ)) := rfl
   rw [h2] at h1
   omega
  have hcall : Calls Tryz.prog 19 #[.pointer (some ⟨r, 0, none⟩), .agg #[.int .i64 frI, .int .i64 (tt : Int), .int .i64 kdI, .slice na nn nc, .slice da dn dc], .int .i64 (dr : Int)] w5 (QEnds r y.d (FS (tt + 1)) φ w5 q T') := by
   rw [e1] at hon ⊢
   rw [e2'] at hod ⊢
   have := Hear_Q hφ r y.d (FS (tt + 1)) m.N T' x dr q w5 hN5 hh na da nc dc hon hod (by rw [← e1]; exact fn.off hFw) (by rw [← e2']; exact fd.off hFw)
   unfold msgV at this
   rw [Hall.out.2.2.2.2] at this
   rw [← Hfk.out.1, ← Hfk.out.2]
   exact this
  refine hcall.mono ?_; rintro e w6 ⟨v, rfl, hmsg, hfr, x56, hN6⟩
  have Hw := Lib.hid (H5.out.went hφ hy hGm hup hp x56 hN6 hmsg hfr hs)
  rw [HmbE.out] at Hw
  clear hh hs hGm hup hp hy hN5 on od fn fd hon hod hFw e1 e2' hcall hmsg hfr x56 hN6 hlt5
  go_wp2_with fail
  refine Hw.out.mono ?_; rintro e w7 ⟨rfl, hst⟩
  have Hst := Lib.hid hst
  clear hst
  go_wp2_with fail
  go_ret
  refine ⟨rfl, Hst.out.pre ((Hx1.out.mono (fun b _ hb => ⟨0, hb⟩)).trans (xB.of_no.trans (Hx5.out.mono (fun b _ hb => ⟨0, hb ▸ Hself.out⟩))))⟩
 ·obtain rfl : G1 = G' := by
   rcases Hs.out with ⟨_, h1⟩ | ⟨h1, _⟩
   ·exact h1
   ·rw [hup] at h1; cases h1
  rw [hp] at cm1
  clear hup hp hhas
  go_wp2_with fail
  go_quiet (fail)
  go_wp2_with fail
  go_ret
  refine ⟨rfl, FS, ms, rv1, H2.out.no ((Ext.refl _ w3).drewN _), (((Hx1.out.mono (fun b _ hb => ⟨0, hb⟩)).trans Hx2.out.of_no).trans ((Ext.refl NoB w3).drewN _).of_no), fun k b hb => .inl ⟨k, hb⟩⟩
end Go.Proofs.YtgglbholbkdgfaaGreatDoor
