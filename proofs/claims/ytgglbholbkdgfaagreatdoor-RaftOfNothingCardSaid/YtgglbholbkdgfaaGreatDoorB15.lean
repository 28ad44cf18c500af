/- Package keep: Save where there is room. -/
import Derived.Test.YtgglbholbkdgfaaGreatDoorB14
namespace Go.Proofs.YtgglbholbkdgfaaGreatDoor
open Go.RowKit

/-- A new block, and what stands behind it. -/
theorem alloc_facts (w : World) (o : Obj) : ∃ W B, w.alloc o = W ∧ w.heap.size = B ∧ Ext NoB w W ∧ W.heap[B]? = some o ∧ W.heap.size = B + 1 :=
  ⟨_, _, rfl, rfl, (Ext.refl _ w).alloc _, blk_new w o, by simp⟩

theorem fsGet_put (fs : List (ByteArray × PFile)) (s : ByteArray) (f : PFile) : fsGet (fsPut fs s f) s = some f := by
  unfold fsPut
  cases h : fsGet fs s with
  | none =>
    simp only [Option.isSome_none, Bool.false_eq_true, if_false]
    unfold fsGet at h ⊢
    rw [List.find?_append]
    have h' : fs.find? (fun p => decide (p.1 = s)) = none := by simpa using h
    rw [h']
    simp
  | some g =>
    simp only [Option.isSome_some, if_true]
    unfold fsGet at h ⊢
    induction fs with
    | nil => cases h
    | cons p fs ih =>
      simp only [List.map_cons, List.find?_cons] at h ⊢
      by_cases e : p.1 = s
      · simp [e]
      · simp only [e, if_false, decide_false] at h ⊢
        exact ih h
theorem fsDel_put (fs : List (ByteArray × PFile)) (s : ByteArray) (f : PFile) : fsDel (fsPut fs s f) s = fsDel fs s := by
  have h : fsDel (fs.map (fun p => if p.1 = s then (s, f) else p)) s = fsDel fs s := by
    unfold fsDel
    induction fs with
    | nil => rfl
    | cons p fs ih => by_cases e : p.1 = s <;> simp_all
  unfold fsPut
  split
  · exact h
  · unfold fsDel; simp
theorem fsDel_del (fs : List (ByteArray × PFile)) (s : ByteArray) : fsDel (fsDel fs s) s = fsDel fs s := by
  unfold fsDel
  simp
theorem fsGet_del (fs : List (ByteArray × PFile)) (s : ByteArray) : fsGet (fsDel fs s) s = none := by
  unfold fsGet fsDel
  simp

abbrev tilde : ByteArray := { data := #[126] }

/-- The three steps of Save, each handing on what it calls. -/
theorem save1 (d B3 B9 B7 : Nat) (s : ByteArray) (v : Value) (w : World) (a : Option Addr) (n c : Nat) (hv : v = .slice a n c)
    (h3 : w.cell? ⟨B3, 0, none⟩ = some (.pointer (some ⟨d, 0, none⟩))) (h9 : w.cell? ⟨B9, 0, none⟩ = some (.string s)) (h7 : w.cell? ⟨B7, 0, none⟩ = some v) (R : World → Prop)
    (h : Calls Tryz.prog 110 #[.pointer (some ⟨d, 0, none⟩), .string s, v] w fun e w' => e = .returned (.int .i64 0) ∧ R w') :
    Calls Tryz.prog 109 #[.pointer (some ⟨B3, 0, none⟩), .pointer (some ⟨B9, 0, none⟩), .pointer (some ⟨B7, 0, none⟩)] w fun e w' => e = .returned (.int .i64 0) ∧ R w' := by
  subst hv
  have H := Lib.hid h
  clear h
  go_enter Tryz.func109, Tryz.ntmps109
  go_wp2_with fail
  refine H.out.mono ?_; rintro e w1 ⟨rfl, x1⟩
  go_wp2_with fail
  go_ret
  exact ⟨rfl, x1⟩
theorem save2 (d B3 B9 : Nat) (s : ByteArray) (w : World)
    (h3 : w.cell? ⟨B3, 0, none⟩ = some (.pointer (some ⟨d, 0, none⟩))) (h9 : w.cell? ⟨B9, 0, none⟩ = some (.string s)) (R : World → Prop)
    (h : Calls Tryz.prog 112 #[.pointer (some ⟨d, 0, none⟩), .string s] w fun e w' => e = .returned (.int .i64 0) ∧ R w') :
    Calls Tryz.prog 111 #[.pointer (some ⟨B3, 0, none⟩), .pointer (some ⟨B9, 0, none⟩)] w fun e w' => e = .returned (.int .i64 0) ∧ R w' := by
  have H := Lib.hid h
  clear h
  go_enter Tryz.func111, Tryz.ntmps111
  go_wp2_with fail
  refine H.out.mono ?_; rintro e w1 ⟨rfl, x1⟩
  go_wp2_with fail
  go_ret
  exact ⟨rfl, x1⟩
theorem save3 (d B3 B9 B4 : Nat) (s s' : ByteArray) (w : World)
    (h3 : w.cell? ⟨B3, 0, none⟩ = some (.pointer (some ⟨d, 0, none⟩))) (h9 : w.cell? ⟨B9, 0, none⟩ = some (.string s)) (h4 : w.cell? ⟨B4, 0, none⟩ = some (.string s')) (R : World → Prop)
    (h : Calls Tryz.prog 114 #[.pointer (some ⟨d, 0, none⟩), .string s, .string s'] w fun e w' => e = .returned (.int .i64 0) ∧ R w') :
    Calls Tryz.prog 113 #[.pointer (some ⟨B3, 0, none⟩), .pointer (some ⟨B9, 0, none⟩), .pointer (some ⟨B4, 0, none⟩)] w fun e w' => e = .returned (.int .i64 0) ∧ R w' := by
  have H := Lib.hid h
  clear h
  go_enter Tryz.func113, Tryz.ntmps113
  go_wp2_with fail
  refine H.out.mono ?_; rintro e w1 ⟨rfl, x1⟩
  go_wp2_with fail
  go_ret
  exact ⟨rfl, x1⟩

set_option maxRecDepth 100000 in
set_option maxHeartbeats 1000000 in
theorem Save_ok (d : Nat) (F : Nat → Prop) (D : PDisk) (s : ByteArray) (p : Value) (l : List UInt8) (w : World) (hd : DiskIs w d F D) (hp : RdB w p l) (hl : l.length ≤ 1048576) (hs : 1 ≤ s.size ∧ s.size ≤ 63)
    (hfit : l.length + 8 + usedL (fsDel D.files (s ++ tilde)) ≤ D.room) (hcnt : (fsDel D.files (s ++ tilde)).length < 256) :
    Calls Tryz.prog 85 #[.pointer (some ⟨d, 0, none⟩), .string s, p] w fun e w' => e = .returned (.int .i64 0) ∧ Ext F w w' ∧
      DiskIs w' d (Gr F w w') ⟨D.room, fsPut (fsDel D.files (s ++ tilde)) s ⟨enc l, (enc l).length⟩⟩ := by
  obtain ⟨a, c, rfl, hn, hc⟩ := hp.shape
  have henc := fun w' (x : Ext NoB w w') => Encode_any (.slice a l.length c) l w' (Rd.no hp x) hl
  have HD := Lib.hid hd
  have HE := Lib.hid henc
  have hmf : ∀ (fn : Fn) (first cap : Array Value) (w : World), (Instr.makeFunc fn first cap).run Tryz.prog w = .ok (.func fn first cap) w := fun _ _ _ _ => rfl
  clear hd hp henc
  go_enter Tryz.func85, Tryz.ntmps85
  go_wp2_with fail
  have x1 : Ext NoB w ((w.alloc (.cells #[.pointer (some ⟨d, 0, none⟩)] 23)).alloc (.cells #[.string s] 9)) := ((Ext.refl _ w).alloc _).alloc _
  have b3 : ((w.alloc (.cells #[.pointer (some ⟨d, 0, none⟩)] 23)).alloc (.cells #[.string s] 9)).heap[w.heap.size]? = some (.cells #[.pointer (some ⟨d, 0, none⟩)] 23 (0, 0)) := blk_alloc (blk_new w _) _
  have b4 : ((w.alloc (.cells #[.pointer (some ⟨d, 0, none⟩)] 23)).alloc (.cells #[.string s] 9)).heap[w.heap.size + 1]? = some (.cells #[.string s] 9 (0, 0)) := by
    have := blk_new (w.alloc (.cells #[.pointer (some ⟨d, 0, none⟩)] 23)) (.cells #[.string s] 9)
    simpa using this
  generalize ((w.alloc (.cells #[.pointer (some ⟨d, 0, none⟩)] 23)).alloc (.cells #[.string s] 9)) = w1 at x1 b3 b4 ⊢
  obtain ⟨B3, hB3⟩ : ∃ B, w.heap.size = B := ⟨_, rfl⟩
  obtain ⟨B4, hB4⟩ : ∃ B, w.heap.size + 1 = B := ⟨_, rfl⟩
  rw [hB3] at b3 ⊢
  rw [← hB3, hB4]
  rw [hB4] at b4
  rw [hB3]
  refine (HE.out w1 x1).mono ?_; rintro e w2 ⟨v2, rfl, o2, f2, x2⟩
  obtain ⟨a2, c2, rfl, hn2, hc2⟩ := RdB.shape (l := enc l) o2.rd
  have b3 := x2.blk b3 (fun h => h)
  have b4 := x2.blk b4 (fun h => h)
  have c3 : w2.cell? ⟨B3, 0, none⟩ = some (.pointer (some ⟨d, 0, none⟩)) := by rw [cell_of_blk b3]; rfl
  have c4 : w2.cell? ⟨B4, 0, none⟩ = some (.string s) := by rw [cell_of_blk b4]; rfl
  have l3 := lt_of_blk b3
  have l4 := lt_of_blk b4
  have HB3 := Lib.hid b3
  have HB4 := Lib.hid b4
  have HO2 := Lib.hid o2
  have HF2 := Lib.hid f2
  have HX2 := Lib.hid (x1.trans x2)
  have HX1 := Lib.hid x1
  have HhB3 := Lib.hid hB3
  have HhB4 := Lib.hid hB4
  clear x1 b3 b4 o2 f2 x2 hB3 hB4
  go_wp2_with fail
  obtain ⟨W4, B7, e1, e2, x4, b7, hs4⟩ := alloc_facts w2 (.cells #[.slice a2 (enc l).length c2] 35)
  obtain ⟨W5, B9, e3, e4, x5, b9, hs5⟩ := alloc_facts W4 (.cells #[.string (s ++ tilde)] 9)
  rw [hs4] at e4
  rw [e1, e2, e3, e4]
  have b3 := x5.blk (x4.blk HB3.out (fun h => h)) (fun h => h)
  have b4 := x5.blk (x4.blk HB4.out (fun h => h)) (fun h => h)
  have b7 := x5.blk b7 (fun h => h)
  have o5 := (HO2.out.no x4).no x5
  have xw5 := (HX2.out.trans x4).trans x5
  have hd5 := HD.out.no xw5
  have HD5 := Lib.hid hd5
  have hsz : w.heap.size ≤ B7 := e2 ▸ HX2.out.size
  have hF : ∀ b, F b → b < w.heap.size := HD.out.lt
  have hB3 := HhB3.out
  have hB4 := HhB4.out
  refine (Remove_any d F D (s ++ tilde) W5 hd5).mono ?_; rintro e w6 ⟨⟨xr, rfl⟩, x6, d6⟩
  have b3 := x6.blk b3 (fun h => by have := hF _ h; omega)
  have b4 := x6.blk b4 (fun h => by have := hF _ h; omega)
  have b7 := x6.blk b7 (fun h => by have := hF _ h; omega)
  have b9 := x6.blk b9 (fun h => by have := hF _ h; omega)
  have o6 := o5.ext x6 (fun g hg h => by have := HF2.out g hg; have := hF _ h; have := HX1.out.size; omega)
  clear c3 c4 l3 l4
  have c3 : w6.cell? ⟨B3, 0, none⟩ = some (.pointer (some ⟨d, 0, none⟩)) := by rw [cell_of_blk b3]; rfl
  have c9 : w6.cell? ⟨B9, 0, none⟩ = some (.string (s ++ tilde)) := by rw [cell_of_blk b9]; rfl
  have HB3 := Lib.hid b3
  have HB4 := Lib.hid b4
  have HB7 := Lib.hid b7
  have HB9 := Lib.hid b9
  have HO6 := Lib.hid o6
  have HD6 := Lib.hid d6
  have HX5 := Lib.hid xw5
  have HX6 := Lib.hid x6
  have HsF := Lib.hid hF
  have HhB := Lib.hid (And.intro hB3 (And.intro hB4 (And.intro hsz (And.intro e4 (And.intro hs5 e2)))))
  clear b3 b4 b7 b9 o6 d6 xw5 x6 hF hB3 hB4 hsz e1 e2 e3 e4 hs4 hs5 x4 x5 o5 hd5
  go_wp2_with fail
  obtain ⟨W7, BF, e1, e2, x7, bF, hs7⟩ := alloc_facts w6 (.cells #[.func (.func 109) #[] #[.pointer (some ⟨B3, 0, none⟩), .pointer (some ⟨B9, 0, none⟩), .pointer (some ⟨B7, 0, none⟩)],
    .func (.func 111) #[] #[.pointer (some ⟨B3, 0, none⟩), .pointer (some ⟨B9, 0, none⟩)], .func (.func 113) #[] #[.pointer (some ⟨B3, 0, none⟩), .pointer (some ⟨B9, 0, none⟩), .pointer (some ⟨B4, 0, none⟩)]] 159)
  rw [e1, e2]
  have b3 := x7.blk HB3.out (fun h => h)
  have b7 := x7.blk HB7.out (fun h => h)
  have b9 := x7.blk HB9.out (fun h => h)
  obtain ⟨hB3, hB4, hsz, e4, hs5, hs2⟩ := HhB.out
  have hF := HsF.out
  have h69 : B9 < BF := by have := HX6.out.size; omega
  have hww : w.heap.size ≤ W7.heap.size := by omega
  obtain ⟨G, hGd⟩ : ∃ G : Nat → Nat → Prop, G = fun k b => F b ∨ (B9 < b ∧ b ≠ BF ∧ b < k) := ⟨_, rfl⟩
  have hGn : ∀ k, ¬ G k B3 ∧ ¬ G k B4 ∧ ¬ G k B7 ∧ ¬ G k B9 ∧ ¬ G k BF := by
    intro k
    subst hGd
    have hF' : ∀ b, w.heap.size ≤ b → (b ≤ B9 ∨ b = BF) → ¬ (F b ∨ (B9 < b ∧ b ≠ BF ∧ b < k)) := by
      intro b h1 h2 h
      rcases h with h | h
      · have := hF _ h; omega
      · omega
    exact ⟨hF' _ (by omega) (by omega), hF' _ (by omega) (by omega), hF' _ (by omega) (by omega), hF' _ (by omega) (by omega), hF' _ (by omega) (by omega)⟩
  have hGv : ∀ k, Off (G k) (.slice a2 (enc l).length c2) := by
    intro k g hg h
    have h1 := HF2.out g hg
    have h2 := HX1.out.size
    have h3 := HO2.out.lt g hg
    subst hGd
    rcases h with h | h
    · have := hF _ h; omega
    · have := HX2.out.size; omega
  have hGw : ∀ k b, b < w.heap.size → G k b → F b := by
    intro k b hb h
    subst hGd
    exact h.elim id (fun h => by omega)
  have hd7 : DiskIs W7 d (G BF) ⟨D.room, fsDel D.files (s ++ tilde)⟩ := (HD6.out.no x7).wider (by
    subst hGd
    rintro b (h | h)
    · exact .inl h
    · exact .inr (by omega)) (by
    subst hGd
    rintro b (h | h)
    · have := hF _ h; omega
    · omega)
  have hst : ∀ k W W' D', k ≤ W.heap.size → BF < W.heap.size → Ext (G k) W W' → DiskIs W' d (Gr (G k) W W') D' → DiskIs W' d (G W'.heap.size) D' := by
    subst hGd
    intro k W W' D' h1 h2 x h
    have := x.size
    refine h.wider ?_ ?_
    · rintro b ((h | h) | h)
      · exact .inl h
      · exact .inr (by omega)
      · exact .inr (by omega)
    · rintro b (h | h)
      · have := hF _ h; omega
      · omega
  have hnm : isNm (s ++ tilde) = true := by
    unfold isNm
    have : (s ++ tilde).size = s.size + 1 := by rw [ByteArray.size_append]; rfl
    simp only [this, decide_eq_true_eq]
    omega
  have o7 := HO6.out.no x7
  have h8 := Append_ok d (G BF) ⟨D.room, fsDel D.files (s ++ tilde)⟩ (s ++ tilde) _ (enc l) W7 hd7 o7.rd (hGv _) hnm (by rw [enc_length]; exact hfit) hcnt
  clear c3 c9
  have c3 : W7.cell? ⟨B3, 0, none⟩ = some (.pointer (some ⟨d, 0, none⟩)) := by rw [cell_of_blk b3]; rfl
  have c9 : W7.cell? ⟨B9, 0, none⟩ = some (.string (s ++ tilde)) := by rw [cell_of_blk b9]; rfl
  have c7 : W7.cell? ⟨B7, 0, none⟩ = some (.slice a2 (enc l).length c2) := by rw [cell_of_blk b7]; rfl
  have cF : W7.cell? ⟨BF, 0, none⟩ = some (.func (.func 109) #[] #[.pointer (some ⟨B3, 0, none⟩), .pointer (some ⟨B9, 0, none⟩), .pointer (some ⟨B7, 0, none⟩)]) := by rw [cell_of_blk bF]; rfl
  have H8 := Lib.hid (save1 d B3 B9 B7 (s ++ tilde) _ W7 a2 _ c2 rfl c3 c9 c7 _ h8)
  have HB4 := Lib.hid (x7.blk HB4.out (fun h => h))
  have HB3 := Lib.hid b3
  have HB9 := Lib.hid b9
  have HBF := Lib.hid bF
  have HGn := Lib.hid hGn
  have HGw := Lib.hid hGw
  have Hst := Lib.hid hst
  have Hs7 := Lib.hid (And.intro hs7 (And.intro h69 hww))
  have HW7 := Lib.hid (((HX5.out.of_no (F := F)).trans HX6.out).trans (x7.of_no))
  have Hsh := Lib.hid hnm
  clear c3 c9 c7 b3 b7 b9 bF hGn hGw hst hs7 h69 hww h8 hd7 hGv hGd o7 hnm hF hB3 hB4 hsz e4 hs5 hs2 e1 e2 x7 hfit hcnt
  refine wp_loop_rounds 4 ?_
  rw [rounds_succ]
  go_wp2_with fail
  refine H8.out.mono ?_; rintro e w8 ⟨rfl, x8, d8⟩
  rw [fsGet_del] at d8
  have hnn := HGn.out
  obtain ⟨hs7, h69, hww⟩ := Hs7.out
  have b3 := x8.blk HB3.out (hnn _).1
  have b9 := x8.blk HB9.out (hnn _).2.2.2.1
  have bF := x8.blk HBF.out (hnn _).2.2.2.2
  have d8 := Hst.out _ _ _ _ (by omega) (by omega) x8 d8
  have h9 := Sync_ok d _ _ (s ++ tilde) w8 d8 _ (fsGet_put _ _ _)
  have c3 : w8.cell? ⟨B3, 0, none⟩ = some (.pointer (some ⟨d, 0, none⟩)) := by rw [cell_of_blk b3]; rfl
  have c9 : w8.cell? ⟨B9, 0, none⟩ = some (.string (s ++ tilde)) := by rw [cell_of_blk b9]; rfl
  have cF : w8.cell? ⟨BF, 1, none⟩ = some (.func (.func 111) #[] #[.pointer (some ⟨B3, 0, none⟩), .pointer (some ⟨B9, 0, none⟩)]) := by rw [cell_of_blk bF]; rfl
  have H9 := Lib.hid (save2 d B3 B9 (s ++ tilde) w8 c3 c9 _ h9)
  have HB8_4 := Lib.hid (x8.blk HB4.out (hnn _).2.1)
  have HB8_3 := Lib.hid b3
  have HB8_9 := Lib.hid b9
  have HB8_F := Lib.hid bF
  have HX8 := Lib.hid (HW7.out.next x8 (fun b h1 h2 => HGw.out _ b h2 h1))
  have Hs8 := Lib.hid x8.size
  clear c3 c9 b3 b9 bF d8 h9 x8 hnn hs7 h69 hww
  go_wp2_with fail
  rw [rounds_succ]
  go_wp2_with fail
  refine H9.out.mono ?_; rintro e w9 ⟨rfl, x9, d9⟩
  have hnn := HGn.out
  obtain ⟨hs7, h69, hww⟩ := Hs7.out
  have hs8 := Hs8.out
  have b3 := x9.blk HB8_3.out (hnn _).1
  have b4 := x9.blk HB8_4.out (hnn _).2.1
  have b9 := x9.blk HB8_9.out (hnn _).2.2.2.1
  have bF := x9.blk HB8_F.out (hnn _).2.2.2.2
  have d9 := Hst.out _ _ _ _ (by omega) (by omega) x9 d9
  have hne : s ++ tilde ≠ s := by
    intro e
    have := congrArg ByteArray.size e
    rw [ByteArray.size_append] at this
    have h1 : tilde.size = 1 := rfl
    omega
  have h10 := Rename_at d _ _ (s ++ tilde) s w9 d9 _ (fsGet_put _ _ _) hne (by unfold isNm; simp only [decide_eq_true_eq]; omega)
  have c3 : w9.cell? ⟨B3, 0, none⟩ = some (.pointer (some ⟨d, 0, none⟩)) := by rw [cell_of_blk b3]; rfl
  have c9 : w9.cell? ⟨B9, 0, none⟩ = some (.string (s ++ tilde)) := by rw [cell_of_blk b9]; rfl
  have c4 : w9.cell? ⟨B4, 0, none⟩ = some (.string s) := by rw [cell_of_blk b4]; rfl
  have cF : w9.cell? ⟨BF, 2, none⟩ = some (.func (.func 113) #[] #[.pointer (some ⟨B3, 0, none⟩), .pointer (some ⟨B9, 0, none⟩), .pointer (some ⟨B4, 0, none⟩)]) := by rw [cell_of_blk bF]; rfl
  have H10 := Lib.hid (save3 d B3 B9 B4 (s ++ tilde) s w9 c3 c9 c4 _ h10)
  have HX9 := Lib.hid (HX8.out.next x9 (fun b h1 h2 => HGw.out _ b h2 h1))
  clear c3 c9 c4 b3 b4 b9 bF d9 h10 x9 hnn hs7 h69 hww hs8 hne
  go_wp2_with fail
  rw [rounds_succ]
  go_wp2_with fail
  refine H10.out.mono ?_; rintro e w10 ⟨rfl, x10, d10⟩
  have X10 := Lib.hid x10
  have D10 := Lib.hid d10
  clear x10 d10
  go_wp2_with fail
  rw [rounds_succ]
  go_wp2_with fail
  go_ret
  have xw := HX9.out.next X10.out (fun b h1 h2 => HGw.out _ b h2 h1)
  have d10 := D10.out
  rw [fsDel_put, fsDel_put, fsDel_del] at d10
  refine ⟨rfl, xw, d10.wider ?_ ?_⟩
  · intro b hb
    by_cases h : b < w.heap.size
    · rcases hb with hb | hb
      · exact .inl (HGw.out _ b h hb)
      · exact absurd (Nat.lt_of_lt_of_le h HX9.out.size) (Nat.not_lt.2 hb.1)
    · exact .inr ⟨Nat.not_lt.1 h, d10.lt b hb⟩
  · intro b hb
    rcases hb with hb | hb
    · exact Nat.lt_of_lt_of_le (HsF.out b hb) xw.size
    · exact hb.2
end Go.Proofs.YtgglbholbkdgfaaGreatDoor
