/- Joined texts: B120 B121 B122 B123 B124 B125 B126 B127 B128. Each has its own head. -/
import Derived.Test.YtgglbholbkdgfaaGreatDoorK23
set_option linter.unusedVariables false
set_option linter.unusedSimpArgs false
namespace Go.Proofs.YtgglbholbkdgfaaGreatDoor
open Go.RowKit
end Go.Proofs.YtgglbholbkdgfaaGreatDoor
namespace Go.Proofs.YtgglbholbkdgfaaGreatDoor
open Go.RowKit
end Go.Proofs.YtgglbholbkdgfaaGreatDoor
namespace Go.Proofs.YtgglbholbkdgfaaGreatDoor
open Go.RowKit
def PNode.again (N : PNode) (draw : Nat) : PNode := { savedNode N.id N.n (draw : Int) N.term N.vote with log := N.log }
def PGroup.propose (G : PGroup) (i : Nat) (p : List UInt8) : Option ((Nat × Nat) × PGroup) :=
 match G.mem[i]? with
 | none => none
 | some m => if m.up then (match m.N.proposeP p with | none => none | some (n, l, N, c) => (match G.went i m l N with | none => none | some G' => some ((n, c), G'))) else some ((0, 7), G)
def PGroup.crash (G : PGroup) (i : Nat) : Option PGroup :=
 match G.mem[i]? with
 | none => none
 | some m => if m.up then (if m.N.fit && decide (1 ≤ m.N.term) then some { G with mem := G.mem.set i { m with up := false } } else none) else some G
def PGroup.start (G : PGroup) (i : Nat) : Option PGroup :=
 match G.mem[i]? with
 | none => none
 | some m => if m.up then some G else (if m.N.fit && decide (1 ≤ m.N.term) && decide (m.N.id = i) && decide (m.N.n = G.n) then some { G.stir with mem := G.mem.set i ⟨true, m.N.again G.draw, []⟩ } else none)
end Go.Proofs.YtgglbholbkdgfaaGreatDoor
namespace Go.Proofs.YtgglbholbkdgfaaGreatDoor
open Go.RowKit
theorem ptrAt_put (ms : List MInfo) (i : Nat) (x y : MInfo) (hx : ms[i]? = some x) (hy : y.mb = x.mb) (k : Nat) : ptrAt (ms.set i y) k = ptrAt ms k := by
 unfold ptrAt
 rw [List.getElem?_set]
 by_cases hik : i = k
 ·subst hik
  have hlt : i < ms.length := by
   rcases Nat.lt_or_ge i ms.length with h | h
   ·exact h
   ·rw [List.getElem?_eq_none h] at hx; cases hx
  rw [if_pos rfl, if_pos hlt, hx]
  dsimp only
  rw [hy]
 ·rw [if_neg hik]
theorem groupArr_put (n : Nat) (ms : List MInfo) (rv : Value) (d i : Nat) (x y : MInfo) (hx : ms[i]? = some x) (hy : y.mb = x.mb) : groupArr n (ms.set i y) rv d = groupArr n ms rv d := by
 unfold groupArr
 have e := ptrAt_put ms i x y hx hy
 rw [e, e, e, e, e]
theorem GAt.swap {w w' : World} {g : Nat} {FS : Nat → Nat → Prop} {φ : List UInt8 → List UInt8} {G : PGroup} {ms : List MInfo} {rv : Value} (h : GAt w g FS φ G ms rv) {i : Nat} {x : MInfo} {m m' : PMem} (hx : ms[i]? = some x) (hm : G.mem[i]? = some m) {p' tk' : Value} {d' : Nat} (hd' : d' < 2147483648)
  (hgb : w'.heap[g]? = some (.cells (groupArr G.n ms rv d') 118 (0, 0))) (x1 : Ext (fun b => b = g ∨ b = x.mb ∨ FS (i + 1) b) w w') (hmb : w'.heap[x.mb]? = some (.cells #[.pointer (some ⟨x.d, 0, none⟩), p', tk'] 120 (0, 0)))
  (hN : NodeOr w' x.d (Gr (FS (i + 1)) w w') φ m' p') (htk : (tk' = x.tk ∧ m'.took = m.took) ∨ (tk' = .slice none 0 0 ∧ m'.took = [])) : GStep w w' g FS φ { G with draws := d', mem := G.mem.set i m' } := by
 have hd : ∀ j k b, j ≠ k → FS j b → ¬ FS k b := fun j k b hjk h1 h2 => hjk (h.apart _ _ _ h1 h2)
 have hmi := h.mem i x m hx hm
 have hmg : x.mb ≠ g := fun e => by
  have := hmi.blk
  rw [e, h.blk] at this
  cases this
 have hil : i < ms.length := by
  rcases Nat.lt_or_ge i ms.length with h1 | h1
  ·exact h1
  ·rw [List.getElem?_eq_none h1] at hx; cases hx
 have hlen := h.len
 have s1 := x1.size
 obtain ⟨FS', hFS⟩ : ∃ FS' : Nat → Nat → Prop, FS' = fun k b => FS k b ∨ (k = i + 1 ∧ w.heap.size ≤ b ∧ b < w'.heap.size) := ⟨_, rfl⟩
 have hFi : FS' (i + 1) = Gr (FS (i + 1)) w w' := by
  funext b
  rw [hFS]
  apply propext
  exact ⟨fun h1 => h1.elim .inl (fun h => .inr h.2), fun h1 => h1.elim .inl (fun h => .inr ⟨rfl, h⟩)⟩
 have hFj : ∀ k, k ≠ i + 1 → FS' k = FS k := fun k hk => by
  funext b
  rw [hFS]
  apply propext
  exact ⟨fun h1 => h1.elim id (fun h => absurd h.1 hk), .inl⟩
 have hF0 : FS' 0 = FS 0 := hFj 0 (by omega)
 have hty : ∀ b, (b = g ∨ b = x.mb ∨ FS (i + 1) b) → FS 0 b → ∃ cs t fr, w.heap[b]? = some (.cells cs t fr) ∧ t ≠ 3 ∧ t ≠ 5 ∧ t ≠ 50 ∧ t ≠ 37 := fun b hb h0 => by
  rcases hb with h1 | h1 | h1
  ·exact ⟨_, _, _, h1 ▸ h.blk, by decide, by decide, by decide, by decide⟩
  ·exact ⟨_, _, _, h1 ▸ hmi.blk, by decide, by decide, by decide, by decide⟩
  ·exact absurd h0 (hd (i + 1) 0 b (by omega) h1)
 have hrow : RowAt w' (FS 0) rv (G.row.map (QMsg.real φ)) := by
  refine h.row.ty x1 (fun b hb h0 => ?_) (fun b hb hb' => ?_)
  ·obtain ⟨cs, t, fr, a1, a2, a3, _⟩ := hty b hb h0
   exact ⟨cs, t, fr, a1, a2, a3⟩
  ·obtain ⟨_, _, h1, h2⟩ := h.row
   obtain ⟨cs, t, fr, a1, _, _, _, a2⟩ := hty b hb' (h2 b hb)
   exact h1.ne_blk a1 a2 b hb rfl
 have htak : ∀ (j : Nat) (y : MInfo) (n : PMem), ms[j]? = some y → G.mem[j]? = some n → TakenAt w' (FS 0) y.tk (n.took.map (subE φ)) := fun j y n hy hn => by
  have ht := (h.mem j y n hy hn).tak
  refine ht.mix x1 (fun b h0 hb => ?_) (fun b hb hb' => ?_)
  ·obtain ⟨cs, t, fr, a1, _, a2, _⟩ := hty b hb h0
   exact ⟨cs, t, fr, a1, a2⟩
  ·obtain ⟨_, _, h1, h2, _⟩ := ht
   obtain ⟨cs, t, fr, a1, _, _, a2, _⟩ := hty b hb' (h2 b hb)
   exact h1.ne_blk a1 a2 b hb rfl
 have htn : ∀ b, tk'.ownBlock = some b → x.tk.ownBlock = some b := fun b hb => by
  rcases htk with ⟨h1, _⟩ | ⟨h1, _⟩
  ·rw [h1] at hb; exact hb
  ·rw [h1] at hb; cases hb
 refine ⟨FS', ms.set i ⟨x.mb, x.d, p', tk'⟩, rv, ⟨?_, ?_, fun k b hb => ?_, fun j k b hj hk => ?_, ?_, hd', h.n, ?_, ?_, fun j y n hy hn => ?_, fun j k y z hy hz e => ?_, h.flight, fun j k y z b hy hz e1 e2 => ?_⟩, x1.mono (fun b _ hb => ?_), fun k b hb => ?_⟩
 ·rw [hgb]
  exact congrArg (fun a => some (Obj.cells a 118 (0, 0))) (groupArr_put G.n ms rv d' i x ⟨x.mb, x.d, p', tk'⟩ hx rfl).symm
 ·rw [hF0]; exact h.self
 ·rw [hFS] at hb
  rcases hb with h1 | ⟨_, _, h1⟩
  ·have := h.lt k b h1; omega
  ·exact h1
 ·rw [hFS] at hj hk
  rcases hj with h1 | ⟨h1, h2, h3⟩ <;> rcases hk with h4 | ⟨h4, h5, h6⟩
  ·exact h.apart _ _ _ h1 h4
  ·have := h.lt _ _ h1; omega
  ·have := h.lt _ _ h4; omega
  ·omega
 ·rw [hF0]; exact hrow
 ·rw [List.length_set, List.length_set]; exact h.len
 ·rw [List.length_set]; exact h.five
 ·rw [List.getElem?_set] at hy hn
  rw [hF0]
  by_cases hij : i = j
  ·subst hij
   rw [if_pos rfl, if_pos hil] at hy
   rw [if_pos rfl, if_pos (by omega)] at hn
   cases hy
   cases hn
   rw [hFi]
   refine ⟨hmb, hmi.own, hN, ?_⟩
   rcases htk with ⟨h1, h2⟩ | ⟨h1, h2⟩
   ·rw [h1, h2]; exact htak i x m hx hm
   ·rw [h1, h2]
    exact ⟨[], .nil, Own.nil _ _ _, fun b hb => (by cases hb), fun u hu => (by cases hu)⟩
  ·rw [if_neg hij] at hy hn
   have hmj := h.mem j y n hy hn
   rw [hFj (j + 1) (by omega)]
   refine ⟨x1.blk hmj.blk (fun hb => ?_), hmj.own, hmj.node.ext x1 (fun b hb hb' => ?_), htak j y n hy hn⟩
   ·rcases hb with h1 | h1 | h1
    ·have h2 := hmj.blk
     rw [h1, h.blk] at h2
     cases h2
    ·exact hij (h.mbs i j x y hx hy h1.symm)
    ·exact hd _ _ _ (by omega) h1 hmj.own
   ·rcases hb' with h1 | h1 | h1
    ·exact hd _ 0 b (by omega) hb (h1 ▸ h.self)
    ·exact hd _ 0 b (by omega) hb (h1 ▸ hmi.own)
    ·exact hd _ _ b (by omega) hb h1
 ·rw [List.getElem?_set] at hy hz
  by_cases hij : i = j
  ·by_cases hik : i = k
   ·omega
   ·rw [if_pos hij, if_pos (by omega)] at hy
    rw [if_neg hik] at hz
    cases hy
    exact hij ▸ h.mbs i k x z hx hz e
  ·rw [if_neg hij] at hy
   by_cases hik : i = k
   ·rw [if_pos hik, if_pos (by omega)] at hz
    cases hz
    exact hik ▸ h.mbs j i y x hy hx e
   ·rw [if_neg hik] at hz
    exact h.mbs j k y z hy hz e
 ·rw [List.getElem?_set] at hy hz
  by_cases hij : i = j
  ·by_cases hik : i = k
   ·omega
   ·rw [if_pos hij, if_pos (by omega)] at hy
    rw [if_neg hik] at hz
    cases hy
    exact hij ▸ h.tks i k x z b hx hz (htn b e1) e2
  ·rw [if_neg hij] at hy
   by_cases hik : i = k
   ·rw [if_pos hik, if_pos (by omega)] at hz
    cases hz
    exact hik ▸ h.tks j i y x b hy hx e1 (htn b e2)
   ·rw [if_neg hik] at hz
    exact h.tks j k y z b hy hz e1 e2
 ·rcases hb with h1 | h1 | h1
  ·exact ⟨0, h1 ▸ h.self⟩
  ·exact ⟨0, h1 ▸ hmi.own⟩
  ·exact ⟨_, h1⟩
 ·rw [hFS] at hb
  rcases hb with h1 | ⟨_, h1, _⟩
  ·exact .inl ⟨k, h1⟩
  ·exact .inr h1
end Go.Proofs.YtgglbholbkdgfaaGreatDoor
namespace Go.Proofs.YtgglbholbkdgfaaGreatDoor
open Go.RowKit
def downArr (d : Nat) (tk : Value) : Array Value := #[.pointer (some ⟨d, 0, none⟩), .pointer none, tk]
def AgainEnds (g mb d dr : Nat) (F : Nat → Prop) (N : PNode) (gs : Array Value) (w : World) (e : Ending) (w' : World) : Prop :=
 e = .returned (.tuple #[]) ∧ Ext (fun b => b = g ∨ b = mb ∨ F b) w w' ∧ w'.heap[g]? = some (.cells (gs.setIfInBounds 7 (.int .u32 (stirN dr))) 118 (0, 0)) ∧ ∃ r, w'.heap[mb]? = some (.cells (memArr d r (.slice none 0 0)) 120 (0, 0)) ∧ RaftIs w' r d (Gr F w w') (N.again (stirN dr / 256)) 1048576 true
set_option maxRecDepth 100000 in
set_option maxHeartbeats 4000000 in
theorem starts_again (g mb d dr : Nat) (tk : Value) (F : Nat → Prop) (N : PNode) (D : PDisk) (ps : List PSeg) (gs : Array Value) (w : World) (hb : w.heap[g]? = some (.cells gs 118 (0, 0))) (h7 : gs[7]? = some (.int .u32 dr)) (h0 : gs[0]? = some (.int .i64 (N.n : Int))) (hp : gs[1 + N.id]? = some (.pointer (some ⟨mb, 0, none⟩))) (hdr : dr < 2147483648)
  (hmb : w.heap[mb]? = some (.cells (downArr d tk) 120 (0, 0))) (hd : DiskIs w d F D) (hND : NodeDisk D N 1048576 true ps) (hok : N.Ok) (hid : N.id < N.n) (hn : N.n = 1 ∨ N.n = 3 ∨ N.n = 5) (ht : N.term ≤ 1099511627776) (hv : -1 ≤ N.vote ∧ N.vote < N.n) (hgF : ¬ F g) (hmF : ¬ F mb) :
  Calls Tryz.prog 57 #[.pointer (some ⟨g, 0, none⟩), .int .i64 (N.id : Int)] w (AgainEnds g mb d dr F N gs w) := by
 obtain ⟨i, hiE⟩ : ∃ i, N.id = i := ⟨_, rfl⟩
 obtain ⟨n, hnE⟩ : ∃ n, N.n = n := ⟨_, rfl⟩
 have hopen := fun (w1 : World) (dw : Nat) (h1 : DiskIs w1 d F D) => Open_canon N.id N.n d F D (dw : Int) N.term N.vote ps (N.log.length + 1) N.log w1 h1 hND.2.1 hND.2.2.1 (by have := hND.2.2.2.1; omega) hND.2.2.2.2 hok hid hn ht hv
 rw [hND.1] at hopen
 have Hopen := Lib.hid hopen
 clear hopen hND hok ht hv
 rw [hiE, hnE] at Hopen
 rw [hnE] at h0 hid hn
 rw [hiE] at hp hid ⊢
 have HE := Lib.hid (And.intro hiE hnE)
 clear hiE hnE
 have c0 : w.cell? ⟨g, 0, none⟩ = some (.int .i64 (n : Int)) := by rw [cell_of_blk hb]; exact h0
 have cp : w.cell? ⟨g, 1 + i, none⟩ = some (.pointer (some ⟨mb, 0, none⟩)) := by rw [cell_of_blk hb]; exact hp
 have cd : w.cell? ⟨mb, 0, none⟩ = some (.pointer (some ⟨d, 0, none⟩)) := by rw [cell_of_blk hmb]; rfl
 have hmg : mb ≠ g := fun e => by rw [e, hb] at hmb; cases hmb
 have hi0 : (0 : Int) ≤ (i : Int) := by omega
 have hi5 : (i : Int) < 5 := by omega
 have hin : ((i : Int)).toNat = i := by omega
 obtain ⟨dw, hdw⟩ : ∃ dw, stirN dr / 256 = dw := ⟨_, rfl⟩
 obtain ⟨d2, hd2⟩ : ∃ d2, stirN dr = d2 := ⟨_, rfl⟩
 have hdraw := fun (w' : World) (x : Ext NoB w w') => draw_any g dr gs w' (x.blk hb (fun h => h)) h7 hdr
 unfold AgainEnds
 rw [hdw] at hdraw ⊢
 rw [hd2] at hdraw ⊢
 have Hdraw := Lib.hid hdraw
 have Hmb := Lib.hid hmb
 have H0 := Lib.hid h0
 have Hd := Lib.hid (And.intro hd (And.intro hid (And.intro hn (And.intro hgF hmF))))
 clear hb h7 h0 hp hmb hd hid hn hgF hmF hdraw hdw hd2
 go_enter Tryz.func57, Tryz.ntmps57
 go_wp2_with fail
 refine wp_region_N (fun w' => w'.cell? ⟨g, 0, none⟩ = some (.int .i64 (n : Int)) ∧ w'.cell? ⟨mb, 0, none⟩ = some (.pointer (some ⟨d, 0, none⟩))) 15 (by kernel_rfl) ?_
 have hSd : w.drew.cell? ⟨g, 0, none⟩ = some (.int .i64 (n : Int)) ∧ w.drew.cell? ⟨mb, 0, none⟩ = some (.pointer (some ⟨d, 0, none⟩)) := ⟨c0, cd⟩
 have xd : Ext NoB w w.drew := (Ext.refl _ w).drew
 generalize w.drew = wd at hSd xd ⊢
 refine wpAnyN_free 0 (v := ?_) (by kernel_rfl) rfl (fun _ _ _ h => h) hSd (by rfl) ?_ ?_; rotate_left; (focus (intro w; go_simp; try with_reducible rfl)); (try simp only [Act.put]); (try simp only [List.setIfInBounds_toArray, List.set_cons_zero, List.set_cons_succ])
 refine wpAnyN_free 1 (v := ?_) (by kernel_rfl) rfl (fun _ _ _ h => h) hSd (by rfl) ?_ ?_; rotate_left; (focus (intro w; go_simp; try with_reducible rfl)); (try simp only [Act.put]); (try simp only [List.setIfInBounds_toArray, List.set_cons_zero, List.set_cons_succ])
 refine wpAnyN_free 2 (v := ?_) (by kernel_rfl) rfl (fun _ _ _ h => h) hSd (by rfl) ?_ ?_; rotate_left; (focus (intro w; go_simp; try with_reducible rfl)); (try simp only [Act.put]); (try simp only [List.setIfInBounds_toArray, List.set_cons_zero, List.set_cons_succ])
 refine wpAnyN_free 3 (v := ?_) (by kernel_rfl) rfl (fun _ _ _ h => h) hSd (by rfl) ?_ ?_; rotate_left; (focus (intro w; go_simp; try with_reducible rfl)); (try simp only [Act.put]); (try simp only [List.setIfInBounds_toArray, List.set_cons_zero, List.set_cons_succ])
 refine wpAnyN_take 4 (v := ?_) (by kernel_rfl) rfl (fun _ _ _ h => h) hSd (by rfl) ?_ ?_; rotate_left; (focus (intro w hSw; (try dsimp only at hSw); go_simp; try with_reducible rfl)); (try simp only [Act.put]); (try simp only [List.setIfInBounds_toArray, List.set_cons_zero, List.set_cons_succ])
 refine wpAnyN_free 5 (v := ?_) (by kernel_rfl) rfl (fun _ _ _ h => h) hSd (by rfl) ?_ ?_; rotate_left; (focus (intro w; go_simp; try with_reducible rfl)); (try simp only [Act.put]); (try simp only [List.setIfInBounds_toArray, List.set_cons_zero, List.set_cons_succ])
 refine wpAnyN_free 6 (v := ?_) (by kernel_rfl) rfl (fun _ _ _ h => h) hSd (by rfl) ?_ ?_; rotate_left; (focus (intro w; go_simp; try with_reducible rfl)); (try simp only [Act.put]); (try simp only [List.setIfInBounds_toArray, List.set_cons_zero, List.set_cons_succ])
 refine wpAnyN_free 7 (v := ?_) (by kernel_rfl) rfl (fun _ _ _ h => h) hSd (by rfl) ?_ ?_; rotate_left; (focus (intro w; go_simp; try with_reducible rfl)); (try simp only [Act.put]); (try simp only [List.setIfInBounds_toArray, List.set_cons_zero, List.set_cons_succ])
 refine wpAnyN_take 8 (v := ?_) (by kernel_rfl) rfl (fun _ _ _ h => h) hSd (by rfl) ?_ ?_; rotate_left; (focus (intro w hSw; (try dsimp only at hSw); go_simp; try with_reducible rfl)); (try simp only [Act.put]); (try simp only [List.setIfInBounds_toArray, List.set_cons_zero, List.set_cons_succ])
 refine wpAnyN_free 9 (v := ?_) (by kernel_rfl) rfl (fun _ _ _ h => h) hSd (by rfl) ?_ ?_; rotate_left; (focus (intro w; go_simp; try with_reducible rfl)); (try simp only [Act.put]); (try simp only [List.setIfInBounds_toArray, List.set_cons_zero, List.set_cons_succ])
 refine wpAnyN_one 10 (by kernel_rfl) (by simp only [List.getElem?_toArray, List.getElem?_cons_succ, List.getElem?_cons_zero] <;> rfl) (by rfl) (fun K hK => ?_)
 go_simp
 refine (Hdraw.out wd xd).mono ?_; rintro e w1 ⟨rfl, hg1, x1⟩
 have hS1 : w1.cell? ⟨g, 0, none⟩ = some (.int .i64 (n : Int)) ∧ w1.cell? ⟨mb, 0, none⟩ = some (.pointer (some ⟨d, 0, none⟩)) := ⟨by
  rw [cell_of_blk hg1, Array.getElem?_setIfInBounds]
  exact H0.out, x1.cell hSd.2 hmg⟩
 have Hg1 := Lib.hid hg1
 have Hx1 := Lib.hid (And.intro xd x1)
 clear hg1 x1 xd
 go_wp2_with fail
 refine hK.out _ _ hS1 (fun hSd => ?_)
 clear hK K hSd
 have hSd := hS1
 (try simp only [Act.put]); (try simp only [List.setIfInBounds_toArray, List.set_cons_zero, List.set_cons_succ])
 refine wpAnyN_one 11 (by kernel_rfl) (by simp only [List.getElem?_toArray, List.getElem?_cons_succ, List.getElem?_cons_zero] <;> rfl) (by rfl) (fun K hK => ?_)
 go_simp
 obtain ⟨hd, hid, hn, hgF, hmF⟩ := Hd.out
 have hd1 : DiskIs w1 d F D := (hd.no Hx1.out.1).ext Hx1.out.2 (fun b hb hb' => hgF (by obtain rfl : b = g := hb'; exact hb))
 refine (Hopen.out w1 dw hd1).mono ?_; rintro e w2 ⟨r, rfl, x2, hR⟩
 have hS2 := And.intro (x2.cell hS1.1 hgF) (x2.cell hS1.2 hmF)
 have HR := Lib.hid hR
 have Hx2 := Lib.hid x2
 clear hd hid hn hd1 x2 hR hS1
 go_wp2_with fail
 refine hK.out _ _ hS2 (fun hSd => ?_)
 clear hK K hSd
 have hSd := hS2
 (try simp only [Act.put]); (try simp only [List.setIfInBounds_toArray, List.set_cons_zero, List.set_cons_succ])
 refine wpAnyN_free 12 (v := ?_) (by kernel_rfl) rfl (fun _ _ _ h => h) hSd (by rfl) ?_ ?_; rotate_left; (focus (intro w; go_simp; try with_reducible rfl)); (try simp only [Act.put]); (try simp only [List.setIfInBounds_toArray, List.set_cons_zero, List.set_cons_succ])
 refine wpAnyN_free 13 (v := ?_) (by kernel_rfl) rfl (fun _ _ _ h => h) hSd (by rfl) ?_ ?_; rotate_left; (focus (intro w; go_simp; try with_reducible rfl)); (try simp only [Act.put]); (try simp only [List.setIfInBounds_toArray, List.set_cons_zero, List.set_cons_succ])
 refine wpAnyN_free 14 (v := ?_) (by kernel_rfl) rfl (fun _ _ _ h => h) hSd (by rfl) ?_ ?_; rotate_left; (focus (intro w; go_simp; try with_reducible rfl)); (try simp only [Act.put]); (try simp only [List.setIfInBounds_toArray, List.set_cons_zero, List.set_cons_succ])
 refine wpAnyN_tail (by rfl) (by decide) (by kernel_rfl) (by kernel_rfl) ?_
 simp only [List.drop_succ_cons, List.drop_zero]
 have hm2 : w2.heap[mb]? = some (.cells (downArr d tk) 120 (0, 0)) := Hx2.out.blk (Hx1.out.2.blk (Hx1.out.1.blk Hmb.out (fun h => h)) hmg) hmF
 have hg2 := Hx2.out.blk Hg1.out hgF
 have k1 : w2.cell? ⟨mb, 1, none⟩ = some (.pointer none) := by rw [cell_of_blk hm2]; rfl
 have k2 : w2.cell? ⟨mb, 2, none⟩ = some tk := by rw [cell_of_blk hm2]; rfl
 have f1 : w2.frozen? ⟨mb, 1, none⟩ = false := frozen_of_blk hm2 1
 have f2 : w2.frozen? ⟨mb, 2, none⟩ = false := frozen_of_blk hm2 2
 have Hm2 := Lib.hid hm2
 have Hg2 := Lib.hid hg2
 clear hm2 hg2 hS2 hSd
 go_wp2_with fail
 go_end0
 have km := blk_setCell (blk_setCell Hm2.out 1 (.pointer (some ⟨r, 0, none⟩))) 2 (.slice none 0 0)
 have kg := blk_setCell_ne (p := ⟨mb, 2, none⟩) (blk_setCell_ne (p := ⟨mb, 1, none⟩) Hg2.out (fun h => hmg h.symm) (.pointer (some ⟨r, 0, none⟩))) (fun h => hmg h.symm) (.slice none 0 0)
 have xs := ((Ext.refl (fun b => b = mb) w2).setCell (p := ⟨mb, 1, none⟩) (.inl rfl) (.pointer (some ⟨r, 0, none⟩))).setCell (p := ⟨mb, 2, none⟩) (.inl rfl) (.slice none 0 0)
 generalize ((w2.setCell ⟨mb, 1, none⟩ (.pointer (some ⟨r, 0, none⟩))).setCell ⟨mb, 2, none⟩ (.slice none 0 0)) = w3 at km kg xs ⊢
 have s1 := (Hx1.out.1.of_no.trans Hx1.out.2).size
 have s2 := Hx2.out.size
 have s3 := xs.size
 have hmw : mb < w.heap.size := lt_of_blk Hmb.out
 have hFlt := Hd.out.1.lt
 have eA : N.again dw = { savedNode i n (dw : Int) N.term N.vote with log := N.log } := by unfold PNode.again; rw [HE.out.1, HE.out.2]
 rw [eA]
 refine ⟨rfl, ((Hx1.out.1.of_no.trans (Hx1.out.2.mono (fun b _ h => .inl h))).trans (Hx2.out.mono (fun b _ h => .inr (.inr h)))).trans (xs.mono (fun b _ h => .inr (.inl h))), kg, r, km, (HR.out.ext xs (fun b hb hb' => ?_)).wide (fun b hb => ?_) (fun b hb => ?_)⟩
 ·obtain rfl : b = mb := hb'
  rcases hb with h | h
  ·exact Hd.out.2.2.2.2 h
  ·omega
 ·rcases hb with h | h
  ·exact .inl h
  ·exact .inr ⟨by omega, by omega⟩
 ·rcases hb with h | h
  ·have := hFlt b h
   omega
  ·exact h.2
end Go.Proofs.YtgglbholbkdgfaaGreatDoor
namespace Go.Proofs.YtgglbholbkdgfaaGreatDoor
open Go.RowKit
theorem crash_some {G G' : PGroup} {i : Nat} (hs : G.crash i = some G') : ∃ m, G.mem[i]? = some m ∧ ((m.up = false ∧ G = G') ∨ (m.up = true ∧ m.N.fit = true ∧ 1 ≤ m.N.term ∧ { G with mem := G.mem.set i { m with up := false } } = G')) := by
 unfold PGroup.crash at hs
 cases hm : G.mem[i]? with
 | none => rw [hm] at hs; cases hs
 | some m =>
  rw [hm] at hs
  dsimp only at hs
  refine ⟨m, rfl, ?_⟩
  cases hu : m.up with
  | false =>
   simp only [hu, Bool.false_eq_true, if_false, Option.some.injEq] at hs
   exact .inl ⟨rfl, hs⟩
  | true =>
   simp only [hu, if_true] at hs
   split at hs
   ·next hc =>
    simp only [Bool.and_eq_true, decide_eq_true_eq] at hc
    exact .inr ⟨rfl, hc.1, hc.2, Option.some.inj hs⟩
   ·cases hs
theorem start_some {G G' : PGroup} {i : Nat} (hs : G.start i = some G') : ∃ m, G.mem[i]? = some m ∧ ((m.up = true ∧ G = G') ∨ (m.up = false ∧ m.N.fit = true ∧ 1 ≤ m.N.term ∧ m.N.id = i ∧ m.N.n = G.n ∧ { G.stir with mem := G.mem.set i ⟨true, m.N.again G.draw, []⟩ } = G')) := by
 unfold PGroup.start at hs
 cases hm : G.mem[i]? with
 | none => rw [hm] at hs; cases hs
 | some m =>
  rw [hm] at hs
  dsimp only at hs
  refine ⟨m, rfl, ?_⟩
  cases hu : m.up with
  | true =>
   simp only [hu, if_true, Option.some.injEq] at hs
   exact .inl ⟨rfl, hs⟩
  | false =>
   simp only [hu, Bool.false_eq_true, if_false] at hs
   split at hs
   ·next hc =>
    simp only [Bool.and_eq_true, decide_eq_true_eq] at hc
    exact .inr ⟨rfl, hc.1.1.1, hc.1.1.2, hc.1.2, hc.2, Option.some.inj hs⟩
   ·cases hs
set_option maxRecDepth 100000 in
set_option maxHeartbeats 4000000 in
theorem do_crash (g i : Nat) (FS : Nat → Nat → Prop) (φ : List UInt8 → List UInt8) (G G' : PGroup) (ms : List MInfo) (rv : Value) (at' dr k v ky co : Int) (qa : Option Addr) (qn qc : Nat) (w : World) (h : GAt w g FS φ G ms rv) (hall : G.mem.length = G.n) (hs : G.crash i = some G') (hdr : 0 ≤ dr) :
  Calls Tryz.prog 30 #[.pointer (some ⟨g, 0, none⟩), .agg #[.int .i64 6, .int .i64 (i : Int), .int .i64 at', .int .i64 dr, .int .i64 k, .int .i64 v, .int .u64 ky, .int .u32 co, .slice qa qn qc]] w fun e w' => e = .returned (.int .i64 0) ∧ GStep w w' g FS φ G' := by
 obtain ⟨m, hm, hs⟩ := crash_some hs
 obtain ⟨x, hx⟩ := h.info hm
 have hin : i < G.n := by
  rw [← hall]
  rcases Nat.lt_or_ge i G.mem.length with h1 | h1
  ·exact h1
  ·rw [List.getElem?_eq_none h1] at hm; cases hm
 obtain ⟨cp, hi5⟩ := h.ptr hx
 have hi0 : (0 : Int) ≤ (i : Int) := by omega
 have hi5' : (i : Int) < 5 := by omega
 have hinn : ((i : Int)).toNat = i := by omega
 have H := Lib.hid (And.intro h (And.intro hx (And.intro hm hin)))
 obtain ⟨mb, hmbE⟩ : ∃ mb, x.mb = mb := ⟨_, rfl⟩
 rw [hmbE] at cp
 have HmbE := Lib.hid hmbE
 have Hs := Lib.hid hs
 clear h hx hm hin hs hall hmbE
 go_enter Tryz.func30, Tryz.ntmps30
 go_wp2_with fail
 obtain ⟨w1, B, e1, e2, x1, b1, hs1⟩ := alloc_facts w (.cells #[.int .i64 6, .int .i64 (i : Int), .int .i64 at', .int .i64 dr, .int .i64 k, .int .i64 v, .int .u64 ky, .int .u32 co, .slice qa qn qc] 68)
 rw [e1, e2]
 have c0 : w1.cell? ⟨B, 0, none⟩ = some (.int .i64 6) := by rw [cell_of_blk b1]; rfl
 have c1 : w1.cell? ⟨B, 1, none⟩ = some (.int .i64 (i : Int)) := by rw [cell_of_blk b1]; rfl
 have c3 : w1.cell? ⟨B, 3, none⟩ = some (.int .i64 dr) := by rw [cell_of_blk b1]; rfl
 have H1 := Lib.hid (H.out.1.no x1)
 have cp1 := x1.cell cp (fun h => h)
 have Hx1 := Lib.hid x1
 clear e1 e2 x1 b1 hs1 cp
 have hg0 : w1.cell? ⟨g, 0, none⟩ = some (.int .i64 (G.n : Int)) := by rw [cell_of_blk H1.out.blk]; rfl
 refine (hasG g G.n i w1 hg0 H.out.2.2.2).mono ?_; rintro e w2 ⟨rfl, rfl⟩
 clear hg0
 go_wp2_with fail
 go_quiet (fail)
 have xd : Ext NoB w2 (w2.drewN nq) := (Ext.refl _ w2).drewN _
 generalize w2.drewN nq = wd at xd ⊢
 have H2 := Lib.hid (H1.out.no xd)
 have d0 := xd.cell c0 (fun h => h)
 have d1 := xd.cell c1 (fun h => h)
 have d3 := xd.cell c3 (fun h => h)
 have Hxd := Lib.hid (Hx1.out.trans xd)
 clear c0 c1 c3 cp1 xd
 obtain ⟨-, hx, hm, -⟩ := H.out
 have hmi := H2.out.mem i x m hx hm
 have cm0 : wd.cell? ⟨x.mb, 0, none⟩ = some (.pointer (some ⟨x.d, 0, none⟩)) := by rw [cell_of_blk hmi.blk]; rfl
 have cm1 : wd.cell? ⟨x.mb, 1, none⟩ = some x.p := by rw [cell_of_blk hmi.blk]; rfl
 rw [HmbE.out] at cm0 cm1
 rcases hmi.node with ⟨hup, r, hp, hN⟩ | ⟨hup, hp, _⟩
 ·rw [hp] at cm1
  obtain ⟨hfit, ht1, hG'⟩ : m.N.fit = true ∧ 1 ≤ m.N.term ∧ { G with mem := G.mem.set i { m with up := false } } = G' := by
   rcases Hs.out with ⟨h1, _⟩ | ⟨_, h1⟩
   ·rw [hup] at h1; cases h1
   ·exact h1
  have Hm := Lib.hid (And.intro hm (And.intro hx (And.intro hup (And.intro hp (And.intro ht1 hG')))))
  have Hmb := Lib.hid hmi.blk
  have HN := Lib.hid hN
  have hdr' : ¬ dr < 0 := by omega
  clear hm hx hup hp ht1 hG' hmi hN hfit
  go_wp2_with fail
  obtain ⟨s, hRI⟩ := HN.out
  refine (Crash_any r x.d (FS (i + 1)) (m.N.sub φ) 1048576 s dr wd hRI).mono ?_; rintro e w3 ⟨rfl, x3, D, ps, hD, hND⟩
  have hfresh := hRI.fresh
  have hap : ∀ b, FS 0 b → ¬ FS (i + 1) b := fun b h0 h1 => by have := H2.out.apart _ _ _ h0 h1; omega
  have hmb3 := x3.blk Hmb.out (hap _ (H2.out.mem i x m Hm.out.2.1 Hm.out.1).own)
  have hg3 := x3.blk H2.out.blk (hap _ H2.out.self)
  have hmg : x.mb ≠ g := fun e => by
   have := Hmb.out
   rw [e, H2.out.blk] at this
   cases this
  have f1 : w3.frozen? ⟨mb, 1, none⟩ = false := by rw [← HmbE.out]; exact frozen_of_blk hmb3 1
  have k1 : w3.cell? ⟨mb, 1, none⟩ = some x.p := by rw [← HmbE.out, cell_of_blk hmb3]; rfl
  have H3 := Lib.hid (And.intro hmb3 (And.intro hg3 (And.intro hmg (And.intro x3 (And.intro hD (And.intro hND hfresh))))))
  clear hmb3 hg3 hmg x3 hD hND hfresh hRI hap d0 d1 d3 cm0 cm1
  go_wp2_with fail
  go_ret
  obtain ⟨hmb3, hg3, hmg, x3, hD, hND, hfresh⟩ := H3.out
  obtain ⟨hm, hx, hup, hp, ht1, hG'⟩ := Hm.out
  rw [← HmbE.out]
  have kb := blk_setCell hmb3 1 (.pointer none)
  have kg := blk_setCell_ne (p := ⟨x.mb, 1, none⟩) hg3 (fun h => hmg h.symm) (.pointer none)
  have xs : Ext (fun b => b = x.mb) w3 (w3.setCell ⟨x.mb, 1, none⟩ (.pointer none)) := (Ext.refl (fun b => b = x.mb) w3).setCell (p := ⟨x.mb, 1, none⟩) (.inl rfl) _
  generalize (w3.setCell ⟨x.mb, 1, none⟩ (.pointer none)) = w4 at kb kg xs ⊢
  have s3 := x3.size
  have s4 := xs.size
  have hmbi := (H2.out.mem i x m hx hm).own
  have xall : Ext (fun b => b = g ∨ b = x.mb ∨ FS (i + 1) b) wd w4 := (x3.mono (fun b _ h => .inr (.inr h))).trans (xs.mono (fun b _ h => .inr (.inl h)))
  have hst := H2.out.swap (w' := w4) (m' := { m with up := false }) (p' := .pointer none) (tk' := x.tk) (d' := G.draws) hx hm H2.out.draws kg xall (by rw [kb]; rfl) (.inr ⟨rfl, rfl, s, D, ps, (hD.ext xs (fun b hb hb' => by
   obtain rfl : b = x.mb := hb'
   rcases hb with h | h
   ·have := H2.out.apart _ _ _ h hmbi; omega
   ·have := H2.out.lt _ _ hmbi; omega)).wide (fun b hb => by
   rcases hb with h | h
   ·exact .inl h
   ·exact .inr ⟨h.1, by omega⟩) (fun b hb => by
   rcases hb with h | h
   ·have := H2.out.lt _ _ h; omega
   ·exact h.2), hND, fun h => (hfresh h).1⟩) (.inl ⟨rfl, rfl⟩)
  rw [← hG']
  exact ⟨rfl, hst.pre Hxd.out.of_no⟩
 ·obtain rfl : G = G' := by
   rcases Hs.out with ⟨_, h1⟩ | ⟨h1, _⟩
   ·exact h1
   ·rw [hup] at h1; cases h1
  rw [hp] at cm1
  clear hm hx hup hp hmi
  go_wp2_with fail
  go_ret
  exact ⟨rfl, (GStep.refl H2.out).pre Hxd.out.of_no⟩
set_option maxRecDepth 100000 in
set_option maxHeartbeats 4000000 in
theorem do_start {φ : List UInt8 → List UInt8} (hφ : Tok φ) (g i : Nat) (FS : Nat → Nat → Prop) (G G' : PGroup) (ms : List MInfo) (rv : Value) (at' dr k v ky co : Int) (qa : Option Addr) (qn qc : Nat) (w : World) (h : GAt w g FS φ G ms rv) (hall : G.mem.length = G.n) (hs : G.start i = some G') :
  Calls Tryz.prog 30 #[.pointer (some ⟨g, 0, none⟩), .agg #[.int .i64 7, .int .i64 (i : Int), .int .i64 at', .int .i64 dr, .int .i64 k, .int .i64 v, .int .u64 ky, .int .u32 co, .slice qa qn qc]] w fun e w' => e = .returned (.int .i64 0) ∧ GStep w w' g FS φ G' := by
 obtain ⟨m, hm, hs⟩ := start_some hs
 obtain ⟨x, hx⟩ := h.info hm
 have hin : i < G.n := by
  rw [← hall]
  rcases Nat.lt_or_ge i G.mem.length with h1 | h1
  ·exact h1
  ·rw [List.getElem?_eq_none h1] at hm; cases hm
 obtain ⟨cp, hi5⟩ := h.ptr hx
 have hi0 : (0 : Int) ≤ (i : Int) := by omega
 have hi5' : (i : Int) < 5 := by omega
 have hinn : ((i : Int)).toNat = i := by omega
 have H := Lib.hid (And.intro h (And.intro hx (And.intro hm hin)))
 obtain ⟨mb, hmbE⟩ : ∃ mb, x.mb = mb := ⟨_, rfl⟩
 rw [hmbE] at cp
 have HmbE := Lib.hid hmbE
 have Hs := Lib.hid hs
 clear h hx hm hin hs hall hmbE
 go_enter Tryz.func30, Tryz.ntmps30
 go_wp2_with fail
 obtain ⟨w1, B, e1, e2, x1, b1, hs1⟩ := alloc_facts w (.cells #[.int .i64 7, .int .i64 (i : Int), .int .i64 at', .int .i64 dr, .int .i64 k, .int .i64 v, .int .u64 ky, .int .u32 co, .slice qa qn qc] 68)
 rw [e1, e2]
 have c0 : w1.cell? ⟨B, 0, none⟩ = some (.int .i64 7) := by rw [cell_of_blk b1]; rfl
 have c1 : w1.cell? ⟨B, 1, none⟩ = some (.int .i64 (i : Int)) := by rw [cell_of_blk b1]; rfl
 have c3 : w1.cell? ⟨B, 3, none⟩ = some (.int .i64 dr) := by rw [cell_of_blk b1]; rfl
 have H1 := Lib.hid (H.out.1.no x1)
 have cp1 := x1.cell cp (fun h => h)
 have Hx1 := Lib.hid x1
 clear e1 e2 x1 b1 hs1 cp
 have hg0 : w1.cell? ⟨g, 0, none⟩ = some (.int .i64 (G.n : Int)) := by rw [cell_of_blk H1.out.blk]; rfl
 refine (hasG g G.n i w1 hg0 H.out.2.2.2).mono ?_; rintro e w2 ⟨rfl, rfl⟩
 clear hg0
 go_wp2_with fail
 go_quiet (fail)
 have xd : Ext NoB w2 (w2.drewN nq) := (Ext.refl _ w2).drewN _
 generalize w2.drewN nq = wd at xd ⊢
 have H2 := Lib.hid (H1.out.no xd)
 have d0 := xd.cell c0 (fun h => h)
 have d1 := xd.cell c1 (fun h => h)
 have d3 := xd.cell c3 (fun h => h)
 have Hxd := Lib.hid (Hx1.out.trans xd)
 clear c0 c1 c3 cp1 xd
 obtain ⟨-, hx, hm, -⟩ := H.out
 have hmi := H2.out.mem i x m hx hm
 have cm0 : wd.cell? ⟨x.mb, 0, none⟩ = some (.pointer (some ⟨x.d, 0, none⟩)) := by rw [cell_of_blk hmi.blk]; rfl
 have cm1 : wd.cell? ⟨x.mb, 1, none⟩ = some x.p := by rw [cell_of_blk hmi.blk]; rfl
 rw [HmbE.out] at cm0 cm1
 rcases hmi.node with ⟨hup, r, hp, hN⟩ | ⟨hup, hp, s, D, ps, hD, hND, hs0⟩
 ·obtain rfl : G = G' := by
   rcases Hs.out with ⟨_, h1⟩ | ⟨h1, _⟩
   ·exact h1
   ·rw [hup] at h1; cases h1
  rw [hp] at cm1
  clear hm hx hup hp hmi hN
  go_wp2_with fail
  go_ret
  exact ⟨rfl, (GStep.refl H2.out).pre Hxd.out.of_no⟩
 ·rw [hp] at cm1
  obtain ⟨hfit, ht1, hid, hn, hG'⟩ : m.N.fit = true ∧ 1 ≤ m.N.term ∧ m.N.id = i ∧ m.N.n = G.n ∧ { G.stir with mem := G.mem.set i ⟨true, m.N.again G.draw, []⟩ } = G' := by
   rcases Hs.out with ⟨h1, _⟩ | ⟨_, h1⟩
   ·rw [hup] at h1; cases h1
   ·exact h1
  have hs1 : s = true := by
   cases s with
   | true => rfl
   | false => have := hs0 rfl; omega
  subst hs1
  have F' := fit_of hfit
  have hap : ∀ b, FS 0 b → ¬ FS (i + 1) b := fun b h0 h1 => by have := H2.out.apart _ _ _ h0 h1; omega
  have hst := starts_again g x.mb x.d G.draws x.tk (FS (i + 1)) (m.N.sub φ) D ps _ wd H2.out.blk rfl (by show _ = some (Value.int .i64 (m.N.n : Int)); rw [hn]; rfl) (by
   show (groupArr G.n ms rv G.draws)[1 + m.N.id]? = _
   rw [hid, groupArr_mem _ _ _ _ _ hi5]
   unfold ptrAt
   rw [hx]) H2.out.draws (by rw [hmi.blk, hp]; rfl) hD hND (sub_ok hφ F'.terms) F'.idn F'.n (by show m.N.term ≤ _; have := F'.term; omega) (by show -1 ≤ m.N.vote ∧ m.N.vote < m.N.n; have := F'.vote; omega) (hap _ H2.out.self) (hap _ hmi.own)
  have hst' : Calls Tryz.prog 57 #[.pointer (some ⟨g, 0, none⟩), .int .i64 (i : Int)] wd (AgainEnds g x.mb x.d G.draws (FS (i + 1)) (m.N.sub φ) (groupArr G.n ms rv G.draws) wd) := by
   have e1 : ((PNode.sub φ m.N).id : Int) = (i : Int) := by show (m.N.id : Int) = _; rw [hid]
   rw [e1] at hst
   exact hst
  have Hst := Lib.hid hst'
  have Hm := Lib.hid (And.intro hm (And.intro hx hG'))
  clear hm hx hup hp ht1 hG' hmi hD hND hs0 hfit F' hap hst hst' hid hn
  go_wp2_with fail
  refine Hst.out.mono ?_; rintro e w3 ⟨rfl, x3, hg3, r, hmb3, hR3⟩
  have H3 := Lib.hid (And.intro x3 (And.intro hg3 (And.intro hmb3 hR3)))
  clear x3 hg3 hmb3 hR3 d0 d1 d3 cm0 cm1
  go_wp2_with fail
  go_ret
  obtain ⟨x3, hg3, hmb3, hR3⟩ := H3.out
  obtain ⟨hm, hx, hG'⟩ := Hm.out
  rw [groupArr_draw] at hg3
  have hsw := H2.out.swap (w' := w3) (m' := ⟨true, m.N.again (stirN G.draws / 256), []⟩) (p' := .pointer (some ⟨r, 0, none⟩)) (tk' := .slice none 0 0) (d' := stirN G.draws) hx hm (stirN_lt _) hg3 x3 hmb3 (.inl ⟨rfl, r, rfl, true, hR3⟩) (.inr ⟨rfl, rfl⟩)
  have eG : { G with draws := stirN G.draws, mem := G.mem.set i ⟨true, m.N.again (stirN G.draws / 256), []⟩ } = G' := by
   rw [← hG']
   unfold PGroup.draw
   rw [stir_eq]
  rw [← eG]
  exact ⟨rfl, hsw.pre Hxd.out.of_no⟩
end Go.Proofs.YtgglbholbkdgfaaGreatDoor
namespace Go.Proofs.YtgglbholbkdgfaaGreatDoor
open Go.RowKit
theorem propose_some {G G' : PGroup} {i n c : Nat} {p : List UInt8} (hs : G.propose i p = some ((n, c), G')) : ∃ m, G.mem[i]? = some m ∧ ((m.up = false ∧ n = 0 ∧ c = 7 ∧ G = G') ∨ (m.up = true ∧ ∃ l T', m.N.proposeP p = some (n, l, T', c) ∧ G.went i m l T' = some G')) := by
 unfold PGroup.propose at hs
 cases hm : G.mem[i]? with
 | none => rw [hm] at hs; cases hs
 | some m =>
  rw [hm] at hs
  dsimp only at hs
  refine ⟨m, rfl, ?_⟩
  cases hu : m.up with
  | false =>
   simp only [hu, Bool.false_eq_true, if_false, Option.some.injEq, Prod.mk.injEq] at hs
   exact .inl ⟨rfl, hs.1.1.symm, hs.1.2.symm, hs.2⟩
  | true =>
   simp only [hu, if_true] at hs
   cases ht : m.N.proposeP p with
   | none => rw [ht] at hs; cases hs
   | some q =>
    obtain ⟨n', l, T', c'⟩ := q
    rw [ht] at hs
    dsimp only at hs
    cases hw : G.went i m l T' with
    | none => rw [hw] at hs; cases hs
    | some G2 =>
     rw [hw] at hs
     simp only [Option.some.injEq, Prod.mk.injEq] at hs
     obtain ⟨⟨rfl, rfl⟩, rfl⟩ := hs
     exact .inr ⟨rfl, l, T', rfl, hw⟩
set_option maxRecDepth 100000 in
set_option maxHeartbeats 4000000 in
theorem propose_any {φ : List UInt8 → List UInt8} (hφ : Tok φ) (g i n c : Nat) (p : List UInt8) (FS : Nat → Nat → Prop) (G G' : PGroup) (ms : List MInfo) (rv : Value) (pa : Option Addr) (pc : Nat) (w : World) (h : GAt w g FS φ G ms rv) (hall : G.mem.length = G.n) (hs : G.propose i p = some ((n, c), G'))
  (hx0 : RdB w (.slice pa (φ p).length pc) (φ p)) (hoff : ∀ k, Off (FS k) (.slice pa (φ p).length pc)) (h1 : 1 ≤ (φ p).length) :
  Calls Tryz.prog 28 #[.pointer (some ⟨g, 0, none⟩), .int .i64 (i : Int), .slice pa (φ p).length pc] w fun e w' => e = .returned (.tuple #[.int .i64 (n : Int), .int .i64 (c : Int)]) ∧ GStep w w' g FS φ G' := by
 obtain ⟨m, hm, hs⟩ := propose_some hs
 obtain ⟨x, hx⟩ := h.info hm
 obtain ⟨cp, hi5⟩ := h.ptr hx
 have hmi := h.mem i x m hx hm
 have hin : i < G.n := by
  rw [← hall]
  rcases Nat.lt_or_ge i G.mem.length with h1 | h1
  ·exact h1
  ·rw [List.getElem?_eq_none h1] at hm; cases hm
 have c0 : w.cell? ⟨g, 0, none⟩ = some (.int .i64 (G.n : Int)) := by rw [cell_of_blk h.blk]; rfl
 have cm1 : w.cell? ⟨x.mb, 1, none⟩ = some x.p := by rw [cell_of_blk hmi.blk]; rfl
 have hi0 : (0 : Int) ≤ (i : Int) := by omega
 have hi5' : (i : Int) < 5 := by omega
 have hinn : ((i : Int)).toNat = i := by omega
 have hhas := hasG g G.n i w c0 hin
 obtain ⟨pn, hpn⟩ : ∃ pn, (φ p).length = pn := ⟨_, rfl⟩
 rcases hmi.node with ⟨hup, r, hp, hN⟩ | ⟨hup, hp, _⟩
 ·obtain ⟨l, T', ht, hs⟩ : ∃ l T', m.N.proposeP p = some (n, l, T', c) ∧ G.went i m l T' = some G' := by
   rcases hs with ⟨h1, _⟩ | ⟨_, h1⟩
   ·rw [hup] at h1; cases h1
   ·exact h1
  rw [hp] at cm1
  have Hp := Lib.hid (Propose_Q hφ r x.d (FS (i + 1)) m.N T' p n c l pa pc w hN ht hx0 (hoff (i + 1)) h1)
  have Hw := Lib.hid (fun (w2 : World) (v : Value) (x12 : Ext (FS (i + 1)) w w2) (hN2 : NodeQ w2 r x.d (Gr (FS (i + 1)) w w2) φ T') (hmsg : MsgsAre w2 v (l.map (QMsg.real φ))) (hfr : Fresh w v) => h.went hφ hx hm hup hp x12 hN2 hmsg hfr hs)
  rw [hpn] at Hp ⊢
  obtain ⟨mb, hmbE⟩ : ∃ mb, x.mb = mb := ⟨_, rfl⟩
  rw [hmbE] at cm1 cp Hw
  clear h hx hm hup hp hs ht hN hmi hmbE hall hx0 hoff h1 hpn
  go_enter Tryz.func28, Tryz.ntmps28
  go_wp2_with fail
  refine hhas.mono ?_; rintro e w2 ⟨rfl, rfl⟩
  go_wp2_with fail
  refine Hp.out.mono ?_; rintro e w2 ⟨v, rfl, hmsg, hfr, x12, hN2⟩
  have Hw2 := Lib.hid (Hw.out w2 v x12 hN2 hmsg hfr)
  clear hmsg hfr x12 hN2 Hw Hp
  go_wp2_with fail
  refine Hw2.out.mono ?_; rintro e w3 ⟨rfl, hst⟩
  have Hst := Lib.hid hst
  clear hst
  go_wp2_with fail
  go_ret2
  exact ⟨rfl, Hst.out⟩
 ·obtain ⟨rfl, rfl, rfl⟩ : n = 0 ∧ c = 7 ∧ G = G' := by
   rcases hs with ⟨_, h1⟩ | ⟨h1, _⟩
   ·exact h1
   ·rw [hup] at h1; cases h1
  rw [hp] at cm1
  have H := Lib.hid (GStep.refl h)
  rw [hpn]
  obtain ⟨mb, hmbE⟩ : ∃ mb, x.mb = mb := ⟨_, rfl⟩
  rw [hmbE] at cm1 cp
  clear h hx hm hup hp hs hmi hmbE hall hx0 hoff h1 hpn
  go_enter Tryz.func28, Tryz.ntmps28
  go_wp2_with fail
  refine hhas.mono ?_; rintro e w2 ⟨rfl, rfl⟩
  go_wp2_with fail
  go_ret2
  exact ⟨rfl, H.out⟩
end Go.Proofs.YtgglbholbkdgfaaGreatDoor
namespace Go.Proofs.YtgglbholbkdgfaaGreatDoor
open Go.RowKit
set_option maxRecDepth 100000 in
set_option maxHeartbeats 4000000 in
theorem taken_any (g i : Nat) (FS : Nat → Nat → Prop) (φ : List UInt8 → List UInt8) (hφ : Tok φ) (G : PGroup) (ms : List MInfo) (rv : Value) (m : PMem) (w : World) (h : GAt w g FS φ G ms rv) (hall : G.mem.length = G.n) (hm : G.mem[i]? = some m) (hl : m.took.length ≤ 1000000) :
  Calls Tryz.prog 32 #[.pointer (some ⟨g, 0, none⟩), .int .i64 (i : Int)] w fun e w' => ∃ v, e = .returned v ∧ EntsNew w w' v (m.took.map (subE φ)) ∧ Fresh w v ∧ Ext NoB w w' := by
 obtain ⟨x, hx⟩ := h.info hm
 obtain ⟨cp, hi5⟩ := h.ptr hx
 have hmi := h.mem i x m hx hm
 have hin : i < G.n := by
  rw [← hall]
  rcases Nat.lt_or_ge i G.mem.length with h1 | h1
  ·exact h1
  ·rw [List.getElem?_eq_none h1] at hm; cases hm
 have c0 : w.cell? ⟨g, 0, none⟩ = some (.int .i64 (G.n : Int)) := by rw [cell_of_blk h.blk]; rfl
 have cm2 : w.cell? ⟨x.mb, 2, none⟩ = some x.tk := by rw [cell_of_blk hmi.blk]; rfl
 have hi0 : (0 : Int) ≤ (i : Int) := by omega
 have hi5' : (i : Int) < 5 := by omega
 have hinn : ((i : Int)).toNat = i := by omega
 have hhas := hasG g G.n i w c0 hin
 obtain ⟨ms0, hms0, hown0, -, -⟩ := hmi.tak
 obtain ⟨ta, tn, tc, htk, htl, htn, htc, -, hcells⟩ := hown0.rd
 have hml := hms0.len
 rw [List.length_map] at hml
 have htn' : tn = m.took.length := by omega
 rw [htk] at cm2
 obtain ⟨es, hes⟩ : ∃ es, m.took.map (subE φ) = es := ⟨_, rfl⟩
 have hel : es.length = tn := by rw [← hes, List.length_map, htn']
 have hed : ∀ e ∈ es, e.2.length ≤ 3000 := by
  intro e he
  rw [← hes] at he
  obtain ⟨y, _, rfl⟩ := List.mem_map.1 he
  exact hφ.len y.2
 rw [hes] at hms0 ⊢
 obtain ⟨mb, hmbE⟩ : ∃ mb, x.mb = mb := ⟨_, rfl⟩
 rw [hmbE] at cm2 cp
 have H0 := Lib.hid (And.intro hms0 (And.intro hcells (And.intro hel (And.intro hed (show tn ≤ 1000000 by omega)))))
 clear h hx hm hmi hall hms0 hown0 htk hml hes hmbE hcells hel hed htn' hl htl hinn hin
 go_enter Tryz.func32, Tryz.ntmps32
 go_wp2_with fail
 refine hhas.mono ?_; rintro e w2 ⟨rfl, rfl⟩
 clear hhas c0
 go_wp2_with fail
 go_loopw [5, 22] (fun v i wr => ∃ k : Nat, i = .int .i64 (k : Int) ∧ k ≤ tn ∧ Hid (EntsNew w2 wr v (es.take k)) ∧ Hid (Fresh w2 v) ∧ Hid (Ext NoB w2 wr)) (fun _ i _ => tn - (intOf i).toNat)
 case atStart => exact ⟨0, rfl, by omega, Lib.hid ⟨[], by rw [List.take_zero]; exact .nil, Own.nil _ _ _, fun u hu => (by cases hu)⟩, Lib.hid (Fresh.nil _ _ _), Lib.hid (Ext.refl _ _)⟩
 case round =>
  obtain ⟨k, rfl, hk, HE, HF, HX⟩ := hrel
  by_cases hlt : k < tn
  ·obtain ⟨hms0, hcells, hel, hed, htn6⟩ := H0.out
   obtain ⟨⟨et, ed⟩, hent⟩ : ∃ e, es[k]? = some e := ⟨_, List.getElem?_eq_getElem (by omega)⟩
   obtain ⟨dv, q0, q1, hod⟩ := hms0.get k _ hent
   have hne : ms0.flatten ≠ [] := fun e => by rw [e] at q0; cases q0
   obtain ⟨b, off, rfl, hc⟩ := hcells hne
   have d0 := HX.out.cell (hc _ _ q0) (fun h => h)
   have d1 := HX.out.cell (hc _ _ q1) (fun h => h)
   obtain ⟨da, dn, dc, rfl, _⟩ := hod.rd
   rw [← Nat.add_assoc] at d1
   obtain ⟨ms', hms', hown', hnew'⟩ := HE.out
   obtain ⟨va, vn, vc, rfl, hvl, _⟩ := hown'.rd
   have hml' := hms'.len
   have Hml := Lib.hid hml'
   have Hed := Lib.hid (And.intro (hed _ (List.mem_of_getElem? hent)) htn6)
   have Hent := Lib.hid hent
   have Hod := Lib.hid (hod.ext HX.out (fun _ _ h => h))
   have HE' := Lib.hid (And.intro hms' (And.intro hown' hnew'))
   have hi0' : (0 : Int) ≤ (k : Int) := by omega
   have hi1' : (k : Int) < (tn : Int) := by omega
   have hkn : ((k : Int)).toNat = k := by omega
   have hbw := World.block_lt_of_cell? wr _ d0
   have hwk : IntKind.i64.wrap ((k : Int) + 1) = (k : Int) + 1 := IntWalk.i64_in _ (by omega)
   clear hms0 hcells hel hed htn6 hent hne hc hod hms' hown' hnew' hml' hvl q0 q1 HE
   go_wp2_with fail
   obtain ⟨w1, B, e1, e2, x1, b1, hs1⟩ := alloc_facts wr (.cells #[.int .i64 (et : Int), .slice da dn dc] 50)
   rw [e1, e2]
   have s0 : w1.cell? ⟨B, 0, none⟩ = some (.int .i64 (et : Int)) := by rw [cell_of_blk b1]; rfl
   have s1 : w1.cell? ⟨B, 1, none⟩ = some (.slice da dn dc) := by rw [cell_of_blk b1]; rfl
   have Hx1 := Lib.hid x1
   clear e1 x1 b1 hs1 d0 d1
   refine wp_region_N (fun w' => w'.cell? ⟨B, 0, none⟩ = some (.int .i64 (et : Int)) ∧ w'.cell? ⟨B, 1, none⟩ = some (.slice da dn dc)) 6 (by kernel_rfl) ?_
   have hSd : w1.drew.cell? ⟨B, 0, none⟩ = some (.int .i64 (et : Int)) ∧ w1.drew.cell? ⟨B, 1, none⟩ = some (.slice da dn dc) := ⟨s0, s1⟩
   have xd : Ext NoB w1 w1.drew := (Ext.refl _ w1).drew
   generalize w1.drew = wd at hSd xd ⊢
   clear s0 s1
   refine wpAnyN_free 0 (v := ?_) (by kernel_rfl) rfl (fun _ _ _ h => h) hSd (by rfl) ?_ ?_; rotate_left; (focus (intro w; go_simp; try with_reducible rfl)); (try simp only [Act.put]); (try simp only [List.setIfInBounds_toArray, List.set_cons_zero, List.set_cons_succ])
   refine wpAnyN_free 1 (v := ?_) (by kernel_rfl) rfl (fun _ _ _ h => h) hSd (by rfl) ?_ ?_; rotate_left; (focus (intro w; go_simp; try with_reducible rfl)); (try simp only [Act.put]); (try simp only [List.setIfInBounds_toArray, List.set_cons_zero, List.set_cons_succ])
   refine wpAnyN_take 2 (v := ?_) (by kernel_rfl) rfl (fun _ _ _ h => h) hSd (by rfl) ?_ ?_; rotate_left; (focus (intro w hSw; (try dsimp only at hSw); go_simp; try with_reducible rfl)); (try simp only [Act.put]); (try simp only [List.setIfInBounds_toArray, List.set_cons_zero, List.set_cons_succ])
   refine wpAnyN_free 3 (v := ?_) (by kernel_rfl) rfl (fun _ _ _ h => h) hSd (by rfl) ?_ ?_; rotate_left; (focus (intro w; go_simp; try with_reducible rfl)); (try simp only [Act.put]); (try simp only [List.setIfInBounds_toArray, List.set_cons_zero, List.set_cons_succ])
   refine wpAnyN_take 4 (v := ?_) (by kernel_rfl) rfl (fun _ _ _ h => h) hSd (by rfl) ?_ ?_; rotate_left; (focus (intro w hSw; (try dsimp only at hSw); go_simp; try with_reducible rfl)); (try simp only [Act.put]); (try simp only [List.setIfInBounds_toArray, List.set_cons_zero, List.set_cons_succ])
   refine wpAnyN_one 5 (by kernel_rfl) (by simp only [List.getElem?_toArray, List.getElem?_cons_succ, List.getElem?_cons_zero] <;> rfl) (by rfl) (fun K hK => ?_)
   go_simp
   have x1d := Hx1.out.trans xd
   refine (cloneBytes_any _ ed wd (Rd.no Hod.out.rd x1d) (by have := Hed.out.1; omega)).mono ?_; rintro e w3 ⟨v3, rfl, o3, f3, x3⟩
   obtain ⟨a3, k3, rfl, _⟩ := RdB.shape (l := ed) o3.rd
   have hS3 := And.intro (x3.cell hSd.1 (fun h => h)) (x3.cell hSd.2 (fun h => h))
   go_wp2_with fail
   refine hK.out _ _ hS3 (fun hSd => ?_)
   clear hK K hSd
   (try simp only [Act.put]); (try simp only [List.setIfInBounds_toArray, List.set_cons_zero, List.set_cons_succ])
   refine wpAnyN_tail (by rfl) (by decide) (by kernel_rfl) (by kernel_rfl) ?_
   simp only [List.drop_succ_cons, List.drop_zero]
   have X3 := Lib.hid (x1d.trans x3)
   have hei : EntIs w3 [.int .i64 (et : Int), .slice a3 ed.length k3] (et, ed) := ⟨_, rfl, o3⟩
   have Hei := Lib.hid hei
   have xA : Ext NoB w3 (w3.alloc (.cells #[.int .i64 (et : Int), .slice a3 ed.length k3] 50)) := (Ext.refl _ w3).alloc _
   have hsrc := Src.row (P := Tryz.prog) unEnts w3.heap.size 2 [.int .i64 (et : Int), .slice a3 ed.length k3] 50 (0, 0) (blk_new w3 (.cells #[.int .i64 (et : Int), .slice a3 ed.length k3] 50)) rfl hei.one.2
   have Hsrc := Lib.hid hsrc
   have HoA := Lib.hid ((HE'.out.2.1.no X3.out).no xA)
   have hbd : (ms'.flatten.length + [Value.int .i64 (et : Int), .slice a3 ed.length k3].length) * 32 ≤ 140737488355328 := by
    rw [Hml.out]
    have := Hed.out.2
    simp only [List.length_cons, List.length_nil, List.length_take]
    omega
   have Hbd := Lib.hid hbd
   have Hf3 := Lib.hid (And.intro f3 (x1d.size))
   clear hei hsrc hbd o3 f3 x3 x1d xd hS3 hSd
   go_wp2_with (at_builtin; refine wpList_app _ rfl (.tmp 26) (.tmp 33) 45 45 rfl 50 2 32 unEnts elEnt HoA.out Hsrc.out rfl rfl Hbd.out (by decide) ?_; intro v' w' o' x' h'; refine halt2 (fun _K HK => ?_))
   have hxw : w2.heap.size ≤ wr.heap.size := HX.out.size
   have X4 : Ext NoB wr (w3.alloc (.cells #[.int .i64 (et : Int), .slice a3 ed.length k3] 50)) := X3.out.trans xA
   have hFv := HF.out
   have xall : Ext NoB w2 w' := (HX.out.trans X4).next x' (fun g hg hl => by have := hFv g hg; omega)
   have hty : ∀ g, (Value.slice va vn vc).ownBlock = some g → ∃ cs t fr, (w3.alloc (.cells #[.int .i64 (et : Int), .slice a3 ed.length k3] 50)).heap[g]? = some (.cells cs t fr) ∧ t ≠ 5 := fun g hg => by
    obtain ⟨cs, fr, h⟩ := own_type HoA.out g hg
    exact ⟨cs, _, fr, h, by decide⟩
   have hrows : EntRows w' (ms' ++ [[.int .i64 (et : Int), .slice a3 ed.length k3]]) (es.take (k + 1)) := by
    rw [take_succ_some Hent.out]
    exact .snoc ((HE'.out.1.ext' X4 (fun _ _ _ _ h => h)).ty x' hty) (by
     obtain ⟨dv, e, ho⟩ := Hei.out
     refine ⟨dv, e, (ho.no xA).ext x' (fun g hg hb => ?_)⟩
     obtain ⟨cs, t, fr, h1, h2⟩ := hty g hb
     exact (ho.no xA).ne_blk h1 h2 g hg rfl)
   have hnew : EntsNew w2 w' v' (es.take (k + 1)) := ⟨_, hrows, by rw [List.flatten_append, List.flatten_cons, List.flatten_nil, List.append_nil]; exact o', fun u hu g hg => by
    rw [List.flatten_append, List.mem_append] at hu
    rcases hu with hu | hu
    ·exact HE'.out.2.2 u hu g hg
    ·simp only [List.flatten_cons, List.flatten_nil, List.append_nil, List.mem_cons, List.not_mem_nil, or_false] at hu
     rcases hu with rfl | rfl
     ·cases hg
     ·have := Hf3.out.1 g hg
      have := Hf3.out.2
      omega⟩
   have hf' : Fresh w2 v' := hFv.app (Nat.le_trans hxw X4.size) h'
   obtain ⟨a', n', c', rfl, _⟩ := o'.rd
   have Hnew := Lib.hid hnew
   have Hf' := Lib.hid hf'
   have Hxall := Lib.hid xall
   clear hrows hnew hf' xall o' x' h' hty X4 xA hFv hxw
   refine HK.out ?_; clear HK _K
   go_wp2_with fail
   go_roundw
   case rel => exact ⟨k + 1, by go_num, by omega, Hnew, Hf', Hxall⟩
   case measure => simp [intOf]; omega
  ·obtain rfl : k = tn := by omega
   obtain ⟨ms', hms', hown', hnew'⟩ := HE.out
   obtain ⟨va, vn, vc, rfl, _⟩ := hown'.rd
   have HE' := Lib.hid (And.intro hms' (And.intro hown' hnew'))
   clear hms' hown' hnew' HE
   go_wp2_with fail
   go_ret
   have hE := HE'.out
   rw [List.take_of_length_le (by have := H0.out.2.2.1; omega)] at hE
   exact ⟨_, rfl, ⟨ms', hE⟩, HF.out, HX.out⟩
end Go.Proofs.YtgglbholbkdgfaaGreatDoor
namespace Go.Proofs.YtgglbholbkdgfaaGreatDoor
open Go.RowKit
def PGroup.ledB (G : PGroup) (n ld : Nat) : Bool := decide (G.mem.length = n) && decide (G.n = n) && decide (ld < n) && (List.range n).all (fun k => match G.mem[k]? with | none => false | some m => m.up && (decide (m.N.role = 2) == decide (k = ld)))
structure Led (G : PGroup) (n ld : Nat) : Prop where
 len : G.mem.length = n
 num : G.n = n
 lt : ld < n
 is : ∀ k, k < n → ∃ m, G.mem[k]? = some m ∧ m.up = true ∧ (m.N.role = 2 ↔ k = ld)
theorem led_of {G : PGroup} {n ld : Nat} (h : G.ledB n ld = true) : Led G n ld := by
 unfold PGroup.ledB at h
 simp only [Bool.and_eq_true, decide_eq_true_eq, List.all_eq_true, List.mem_range] at h
 obtain ⟨⟨⟨h1, h2⟩, h3⟩, h4⟩ := h
 refine ⟨h1, h2, h3, fun k hk => ?_⟩
 have := h4 k hk
 split at this
 ·cases this
 ·next m hm =>
  simp only [Bool.and_eq_true, beq_iff_eq] at this
  refine ⟨m, hm, this.1, ?_⟩
  have := this.2
  by_cases h : k = ld
  ·simp only [h, decide_true, decide_eq_true_eq] at this
   exact ⟨fun _ => h, fun _ => this⟩
  ·simp only [h, decide_false, decide_eq_false_iff_not] at this
   exact ⟨fun h' => absurd h' this, fun h' => absurd h' h⟩
def PGroup.tookN (G : PGroup) (i : Nat) : Nat := match G.mem[i]? with | none => 0 | some m => m.took.length
def PGroup.downN (n ld : Nat) : Nat → Nat → Nat → PGroup → Option PGroup
 | 0, _, _, G => some G
 | f + 1, k, dn, G => if 2 * dn < n then (if k = ld then PGroup.downN n ld f (k + 1) dn G else (match G.crash k with | none => none | some G => PGroup.downN n ld f (k + 1) (dn + 1) G)) else some G
theorem crash_keep {G G' : PGroup} {i : Nat} (hs : G.crash i = some G') : G'.mem.length = G.mem.length ∧ G'.n = G.n := by
 obtain ⟨m, _, h⟩ := crash_some hs
 rcases h with ⟨_, rfl⟩ | ⟨_, _, _, rfl⟩
 ·exact ⟨rfl, rfl⟩
 ·exact ⟨List.length_set .., rfl⟩
theorem start_keep {G G' : PGroup} {i : Nat} (hs : G.start i = some G') : G'.mem.length = G.mem.length ∧ G'.n = G.n := by
 obtain ⟨m, _, h⟩ := start_some hs
 rcases h with ⟨_, rfl⟩ | ⟨_, _, _, _, _, h⟩
 ·exact ⟨rfl, rfl⟩
 ·have h2 := (stir_keep G).2
  generalize G.stir = Gs at h h2
  generalize G.draw = dr at h
  subst h
  exact ⟨List.length_set .., h2⟩
theorem propose_keep {G G' : PGroup} {i n c : Nat} {p : List UInt8} (hs : G.propose i p = some ((n, c), G')) : G'.mem.length = G.mem.length ∧ G'.n = G.n := by
 obtain ⟨m, _, h⟩ := propose_some hs
 rcases h with ⟨_, _, _, rfl⟩ | ⟨_, l, T', _, h⟩
 ·exact ⟨rfl, rfl⟩
 ·exact went_keep h
theorem gives_keep : ∀ (k : Nat) (G G' : PGroup), PGroup.gives k G = some G' → G'.mem.length = G.mem.length ∧ G'.n = G.n
 | 0, G, G', h => by
  rw [PGroup.gives] at h
  cases h
  exact ⟨rfl, rfl⟩
 | k + 1, G, G', h => by
  rcases gives_succ h with ⟨G1, h1, rfl⟩ | ⟨G1, h1, h2⟩
  ·exact give_keep h1
  ·have a := give_keep h1
   have b := gives_keep k G1 G' h2
   exact ⟨b.1.trans a.1, b.2.trans a.2⟩
theorem settle_keep : ∀ (k : Nat) (G G' : PGroup), PGroup.settle k G = some G' → G'.mem.length = G.mem.length ∧ G'.n = G.n
 | 0, G, G', h => by
  rw [PGroup.settle] at h
  cases h
  exact ⟨rfl, rfl⟩
 | k + 1, G, G', h => by
  obtain ⟨G1, G2, h1, h2, h3⟩ := settle_succ h
  have a := ticksN_keep _ _ _ _ h1
  have b := gives_keep _ _ _ h2
  have c := settle_keep k G2 G' h3
  exact ⟨c.1.trans (b.1.trans a.1), c.2.trans (b.2.trans a.2)⟩
def PGroup.beat (G : PGroup) : Option PGroup := match G.ticksN G.n 0 with | none => none | some G => PGroup.gives 2000 G
theorem settle_beat (k : Nat) (G : PGroup) : PGroup.settle (k + 1) G = (match G.beat with | none => none | some G => PGroup.settle k G) := by
 rw [PGroup.settle]
 unfold PGroup.beat
 cases G.ticksN G.n 0 with
 | none => rfl
 | some G1 => rfl
def PGroup.stays (f : PGroup → Bool) : Nat → PGroup → Bool
 | 0, G => f G
 | k + 1, G => f G && (match G.beat with | none => false | some G => PGroup.stays f k G)
theorem stays_all (f : PGroup → Bool) : ∀ (k : Nat) (G : PGroup), PGroup.stays f k G = true → ∀ t, t ≤ k → ∃ G', PGroup.settle t G = some G' ∧ f G' = true
 | 0, G, h, t, ht => by
  obtain rfl : t = 0 := by omega
  exact ⟨G, rfl, h⟩
 | k + 1, G, h, t, ht => by
  rw [PGroup.stays, Bool.and_eq_true] at h
  cases t with
  | zero => exact ⟨G, rfl, h.1⟩
  | succ t =>
   rw [settle_beat]
   cases hb : G.beat with
   | none => rw [hb] at h; cases h.2
   | some G1 =>
    rw [hb] at h
    exact stays_all f k G1 h.2 t (by omega)
end Go.Proofs.YtgglbholbkdgfaaGreatDoor
