/- The statement RaftKeeps: what a node said it took is on its disk behind any crash. -/
import Derived.Test.YtgglbholbkdgfaaGreatDoorK17
import Derived.Test.YtgglbholbkdgfaaGreatDoorBL
import Derived.Deep.Slices
set_option linter.unusedVariables false
set_option linter.unusedSimpArgs false
namespace Go.Proofs.YtgglbholbkdgfaaGreatDoor
open Go.ChangeShapes Go.WideShapes Go.ChangeAt Go.RowKit Go.Deep

theorem spot_of_cell {w : World} {a : Addr} {v : Value} (h : w.cell? a = some v) : a.spot = none := by
  unfold World.cell? at h
  split at h
  · cases hs : a.spot with
    | none => rfl
    | some x => rw [hs] at h; cases h
  · cases h
theorem weightsAll_mem {H : Type} {P : Program} {e : TypeId} {n : Nat} : ∀ {ds : List (DataW H)} {d : DataW H}, d ∈ ds → n ∈ d.weights P e → n ∈ DataW.weightsAll P e ds
  | [], _, hd, _ => by cases hd
  | x :: r, d, hd, hn => by
    unfold DataW.weightsAll
    rcases List.mem_cons.1 hd with rfl | hd
    · exact List.mem_append_left _ hn
    · exact List.mem_append_right _ (weightsAll_mem hd hn)

/-- Bytes of a slice that was read. -/
theorem rd_bytes {H : Type} {enc : TypeId × Value → H} {w : World} {base : Nat} {spare : Nat → Bool} {held : Bool} {fuel : Nat} {na : Option Addr} {nn nc : Nat} {y : DataW H × List MemPlace}
    (h : DataW.trod enc Tryz.prog w base spare held fuel 35 [.slice na nn nc] = some y) : ∃ l : List UInt8, l.length = nn ∧ CellsB w na l := by
  rcases open_slice1 Tryz.underlying35 (by kernel_rfl) h with ⟨hc, _⟩ | ⟨a, len, cap, m, n, V, D, Pl, hc, _, h1, h2, hm, _, hx⟩
  · simp only [List.cons.injEq, Value.slice.injEq, and_true] at hc
    obtain ⟨rfl, rfl, rfl⟩ := hc
    exact ⟨[], rfl, fun i x hx => by cases hx⟩
  · simp only [List.cons.injEq, Value.slice.injEq, and_true] at hc
    obtain ⟨rfl, rfl, rfl⟩ := hc
    obtain ⟨b, off, sp⟩ := a
    have hlt : ∀ i, i < nn → i < m := fun i hi => by rw [hm]; split <;> omega
    have hv : ∀ i, i < nn → ∃ x : UInt8, V i = .int .u8 (x.toNat : Int) := fun i hi => by
      obtain ⟨_, g2⟩ := hx i (hlt i hi)
      obtain ⟨v, e, -, hwf⟩ := DataW.trod_int Tryz.underlying5 g2
      have e2 : V i = .int .u8 v := by simpa using e
      simp only [Lit.wf, Bool.and_eq_true, decide_eq_true_eq] at hwf
      have hv0 : 0 ≤ v ∧ v ≤ 255 := ⟨hwf.1, hwf.2⟩
      refine ⟨UInt8.ofNat v.toNat, ?_⟩
      rw [e2, UInt8.toNat_ofNat']
      congr 1
      omega
    obtain ⟨X, hX⟩ : ∃ X : Nat → UInt8, ∀ i, i < nn → V i = .int .u8 ((X i).toNat : Int) := by
      refine ⟨fun i => if h : i < nn then (hv i h).choose else 0, fun i hi => ?_⟩
      simp only [dif_pos hi]
      exact (hv i hi).choose_spec
    refine ⟨(List.range nn).map X, by simp, fun i x hi => ?_⟩
    rw [List.getElem?_map] at hi
    obtain ⟨i', hi', rfl⟩ := Option.map_eq_some_iff.1 hi
    have hin : i < nn := by
      have := (List.getElem?_eq_some_iff.1 hi').1
      simpa using this
    obtain rfl : i = i' := by
      rw [List.getElem?_range hin] at hi'
      exact Option.some.inj hi'
    obtain rfl : sp = none := by
      obtain ⟨g1, _⟩ := hx 0 (hlt 0 (by omega))
      have : w.cell? ⟨b, off, sp⟩ = some (V 0) := by simpa [Addr.add] using g1
      exact spot_of_cell this
    obtain ⟨g1, _⟩ := hx i (hlt i hin)
    rw [Addr.add_lit, hX i hin] at g1
    exact ⟨b, off, rfl, g1⟩

set_option maxRecDepth 100000 in
/-- The rows that come in. -/
theorem open_rows {H : Type} {enc : TypeId × Value → H} {w : World} {base : Nat} {spare : Nat → Bool} {held : Bool} {fuel : Nat} {ap : Option Addr} {m c : Nat} {y : DataW H × List MemPlace} (h : DataW.trod enc Tryz.prog w base spare held fuel 44 [.slice ap m c] = some y)
    (hw : ∀ n ∈ y.1.weights Tryz.prog 44, n ≤ reachBytes) : ∃ rows : List (List UInt8), rows.length = m ∧ RowsIn w ap rows := by
  rcases open_slice1 Tryz.underlying44 (by kernel_rfl) h with ⟨hc, _⟩ | ⟨a, len, cap, k, n, V, D, Pl, hc, _, h1, h2, hm, hy, hx⟩
  · simp only [List.cons.injEq, Value.slice.injEq, and_true] at hc
    obtain ⟨-, rfl, -⟩ := hc
    exact ⟨[], rfl, fun i l hl => by cases hl⟩
  · simp only [List.cons.injEq, Value.slice.injEq, and_true] at hc
    obtain ⟨rfl, rfl, rfl⟩ := hc
    obtain ⟨b, off, sp⟩ := a
    have hrow : ∀ i, i < m → ∃ l : List UInt8, ∃ b' off' a c, (some ⟨b, off, sp⟩ : Option Addr) = some ⟨b', off', none⟩ ∧ w.cell? ⟨b', off' + i, none⟩ = some (.slice a l.length c) ∧ CellsB w a l ∧ l.length ≤ 140737488355328 := by
      intro i hi
      have hik : i < k := by rw [hm]; split <;> omega
      obtain ⟨g1, g2⟩ := hx i hik
      have hwi : ∀ n ∈ (D i).weights Tryz.prog 35, n ≤ reachBytes := by
        intro n hn
        refine hw n ?_
        have e : y.1.weights Tryz.prog 44 = (((List.range m).map D).length + ((List.range (k - m)).map fun j => D (m + j)).length) * Tryz.prog.bytesOf 35 :: (DataW.weightsAll Tryz.prog 35 ((List.range m).map D) ++ DataW.weightsAll Tryz.prog 35 ((List.range (k - m)).map fun j => D (m + j))) := by
          rw [hy]
          simp only [DataW.weights, Tryz.underlying44]
        rw [e]
        exact List.mem_cons_of_mem _ (List.mem_append_left _ (weightsAll_mem (List.mem_map_of_mem (List.mem_range.2 hi)) hn))
      obtain ⟨na, nn, nc, hv, hn1, hn2, hn3⟩ := slice_reach Tryz.underlying35 (by rw [show Tryz.prog.bytesOf 5 = 1 by kernel_rfl]; omega) g2 hwi
      rw [show Tryz.prog.bytesOf 5 = 1 by kernel_rfl] at hn3
      rw [hv] at g1 g2
      obtain ⟨l, hl, hcl⟩ := rd_bytes g2
      obtain rfl : sp = none := by
        obtain ⟨g0, _⟩ := hx 0 (by omega)
        have : w.cell? ⟨b, off, sp⟩ = some (V 0) := by simpa [Addr.add] using g0
        exact spot_of_cell this
      rw [Addr.add_lit] at g1
      exact ⟨l, b, off, na, nc, rfl, by rw [hl]; exact g1, hcl, by omega⟩
    refine ⟨(List.range m).map (fun i => if h : i < m then (hrow i h).choose else []), by simp, fun i l hl => ?_⟩
    rw [List.getElem?_map] at hl
    obtain ⟨i', hi', he⟩ := Option.map_eq_some_iff.1 hl
    have hin : i < m := by
      have := (List.getElem?_eq_some_iff.1 hi').1
      simpa using this
    obtain rfl : i = i' := by
      rw [List.getElem?_range hin] at hi'
      exact Option.some.inj hi'
    rw [dif_pos hin] at he
    subst he
    exact (hrow i hin).choose_spec
end Go.Proofs.YtgglbholbkdgfaaGreatDoor
namespace Go.Proofs.YtgglbholbkdgfaaGreatDoor.raftKeeps
open Go.ChangeShapes Go.WideShapes Go.ChangeAt Go.RowKit

set_option maxRecDepth 100000 in
theorem contract (H : Type) (enc : TypeId × Value → H) (W : World) (base : Nat) (args : Array Value) (ds gs : List (DataW H)) (before : List MemPlace)
    (hval : ∀ (j : Nat) t v, Tryz.f6.params[j]? = some t → args[j]? = some v → Value.okWide Tryz.prog W .any base t v)
    (hW : DataW.Whole enc Tryz.prog Tryz.f6.params.toList Rows.raftKeepsSpec.vars false W args.toList ds gs before)
    (hR : (DataW.weightsEach Tryz.prog Tryz.f6.params.toList ds).all (· ≤ reachBytes) = true) :
    Calls Tryz.prog 6 args W fun e W' => ∃ v, e = .returned v ∧ Rows.raftKeepsSpec.post enc Tryz.prog Tryz.f6 false true false false W args v W' := by
  have hW' := hW
  obtain ⟨p, q, hA0, hV, rfl, hfz, hnd⟩ := hW
  have hA : DataW.TrodAll enc Tryz.prog W 0 (fun _ => true) true Tryz.f6.params.toList args.toList ds p := hA0
  rw [Tryz.params6] at hA hval hR
  obtain ⟨v0, vs0, d0, ds0, p0, q0, hargs, rfl, rfl, h0, r0⟩ := trodAll_cons hA
  obtain ⟨v1, vs1, d1, ds1, p1, q1, rfl, rfl, rfl, h1, r1⟩ := trodAll_cons r0
  obtain ⟨v2, vs2, d2, ds2, p2, q2, rfl, rfl, rfl, h2, r2⟩ := trodAll_cons r1
  obtain ⟨rfl, rfl, rfl⟩ := trodAll_nil r2
  obtain rfl : args = #[v0, v1, v2] := by rw [← Array.toArray_toList (xs := args), hargs]
  obtain ⟨rfl, rfl⟩ := trodVars_none hV
  have hw := List.all_eq_true.1 hR
  obtain ⟨n1, rfl, rfl, rfl, w1⟩ := open_int Tryz.underlying3 (hval 1 3 v1 rfl rfl) h1
  obtain ⟨n2, rfl, rfl, rfl, w2⟩ := open_int Tryz.underlying3 (hval 2 3 v2 rfl rfl) h2
  obtain ⟨ba, bn, bc, rfl⟩ := okWide_slice Tryz.underlying44 (hval 0 44 v0 rfl rfl)
  obtain ⟨fuel, hf⟩ := h0
  have hwe : ∀ n ∈ d0.weights Tryz.prog 44, n ≤ reachBytes := fun n hn => by simpa using hw n (DataW.weights_mem_each (j := 0) rfl rfl n hn)
  obtain ⟨rows, hrl, hrows⟩ := open_rows (ap := ba) (m := bn) (c := bc) hf hwe
  obtain ⟨_, _, _, hv1, hc1, hc2, hb⟩ := slice_reach (v := .slice ba bn bc) Tryz.underlying44 (by rw [show Tryz.prog.bytesOf 35 = 24 by kernel_rfl]; omega) hf hwe
  cases hv1
  rw [show Tryz.prog.bytesOf 35 = 24 by kernel_rfl] at hb
  refine (keeps_walk ba bn bc n1 n2 rows W hrl hrows (by omega)).mono fun e W' ⟨he, hg⟩ => ?_
  subst he
  exact ⟨_, rfl, law_post hW' rfl rfl rfl (by rw [Tryz.params6]; decide) (by kernel_rfl) hg.below⟩

theorem laid_met (os : Os) : laidMet Tryz.prog Rows.raftKeepsRow.laid ((tabsWorld os).forCall (fun _ _ => 0) ⟨#[], #[.slice none 0 0, .int .i64 0, .int .i64 0], []⟩).memory :=
  laidMet_of_run' 8 (by kernel_rfl) (by kernel_rfl)
theorem reads (os : Os) {H : Type} (enc : TypeId × Value → H) : ∃ places, DataW.whole enc Tryz.prog ((tabsWorld os).forCall (fun _ _ => 0) ⟨#[], #[.slice none 0 0, .int .i64 0, .int .i64 0], []⟩).memory Tryz.f6.params.toList Rows.raftKeepsSpec.vars false [Value.slice none 0 0, .int .i64 0, .int .i64 0] 8 =
    some ([.nil, .lit (.int .i64 0), .lit (.int .i64 0)], [], places) :=
  ⟨[], by kernel_rfl⟩

set_option maxRecDepth 100000 in
theorem lifted (os : Os) (started : os.Started) (H : Type) (enc : TypeId × Value → H) (F : Stop.Interp) :
    ReturnsInHanded {} Tryz.checked os 6 .any ((OpenSpec.ofChange Rows.raftKeepsSpec).preRow enc Tryz.prog Tryz.f6 Rows.raftKeepsRow.domain false Rows.raftKeepsRow.laid) (((OpenSpec.ofChange Rows.raftKeepsSpec).at F).post enc Tryz.prog Tryz.f6 false true false false) := by
  obtain ⟨places, hx⟩ := reads os enc
  refine returnsInHanded_of_row (C := Tryz.checked) (s := OpenSpec.ofChange Rows.raftKeepsSpec) ownKnob_none started (by kernel_rfl) Tryz.func6
    (witness_row_at (enc := enc) (C := Tryz.checked) false (tabsWorld os) #[.slice none 0 0, .int .i64 0, .int .i64 0] rfl (by kernel_rfl) (by kernel_rfl) (by kernel_rfl)
      (OpenSpec.preRow_of_cond 8 hx (by kernel_rfl) (fun k hk => by cases hk) (by kernel_rfl) (laid_met os))) ?_
  intro W base args ds gs before hval hW _ _ hR hL _ _
  refine contract H enc W base args ds gs before hval hW ?_
  obtain ⟨_, _, _, hV, _⟩ := hW
  obtain ⟨rfl, -⟩ := trodVars_none hV
  have e : DataSpec.varTypes Tryz.checked.prog (OpenSpec.ofChange Rows.raftKeepsSpec).bare.plain = [] := rfl
  rw [e, List.append_nil, List.append_nil] at hR
  exact hR

theorem said : Rows.RaftKeepsSaid :=
  OpenClaim.holds_of_cond 6 Tryz.f6 rfl rfl rfl rfl rfl rfl rfl ⟨rfl, rfl, rfl, rfl, rfl⟩ rfl rfl rfl rfl rfl (by kernel_rfl) Tryz.func6 (by kernel_rfl)
    (of_decide_eq_true (by kernel_rfl)) (by unfold Func.isWrapper; first | (rw [if_pos (by decide +kernel)]; kernel_rfl) | (rw [if_neg (by decide +kernel)]; exact ⟨rfl, rfl⟩))
    (fun os started H enc _ F => by rw [OpenClaim.pre_eq_preRow]; exact lifted os started H enc F)

theorem plain (f : FuncId) (fn : Func) (hf : Tryz.pinned.checked.prog.funcNamed "garner/garnerlaw16.RaftKeeps" = some f) (hfn : Tryz.pinned.checked.prog.funcs[f]? = some fn) :
    false = Tryz.pinned.checked.prog.looks [] ∧ ∀ (j : Nat) t, fn.params[j]? = some t → Tryz.pinned.checked.prog.wantsStandIn t = false := by
  obtain rfl : f = 6 := Option.some.inj ((show Tryz.prog.funcNamed "garner/garnerlaw16.RaftKeeps" = some 6 by kernel_rfl).symm.trans hf) |>.symm
  obtain rfl : fn = Tryz.f6 := (Option.some.inj (Tryz.func6.symm.trans hfn)).symm
  refine ⟨by kernel_rfl, fun j t ht => ?_⟩
  rw [Tryz.params6] at ht
  have h : t = 44 ∨ t = 3 := by
    have h := Array.mem_of_getElem? ht
    simpa using h
  rcases h with rfl | rfl
  · exact (show Tryz.prog.wantsStandIn 44 = false by kernel_rfl)
  · exact (show Tryz.prog.wantsStandIn 3 = false by kernel_rfl)

theorem card : Rows.RaftKeepsCardSaid :=
  Claim7.holds_tied_plain_at .later [] _ _ _ _ said (fun _ h => by cases h) (by kernel_rfl) (fun _ h => by cases h) raftKeeps_row_tie rfl ⟨rfl, rfl⟩ (by kernel_rfl) rfl plain (by kernel_rfl)
#print axioms card
end Go.Proofs.YtgglbholbkdgfaaGreatDoor.raftKeeps
