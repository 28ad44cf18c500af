/- The statement RaftVotes: a node votes once in a term, also behind a crash. -/
import Derived.Test.YtgglbholbkdgfaaGreatDoorB66
import Derived.Test.YtgglbholbkdgfaaGreatDoorBL
set_option linter.unusedVariables false
set_option linter.unusedSimpArgs false
namespace Go.Proofs.YtgglbholbkdgfaaGreatDoor
open Go.ChangeShapes Go.WideShapes Go.ChangeAt Go.RowKit Go.Deep

theorem votes_any (ap : Option Addr) (m c : Nat) (draw : Int) (w : World) (hm2 : m ≤ 140737488355328) (hask : ∀ i, i < m → ∃ b off, ap = some ⟨b, off, none⟩ ∧ AskAt w b (off + i * 5)) (hmc : m ≤ c ∧ c ≤ maxLen) :
    Calls Tryz.prog 5 #[.slice ap m c, .int .i64 draw] w fun e w' => e = .returned (.bool true) ∧ Ext NoB w w' := by
  by_cases hm : 60 < m
  · exact votes_many ap m c draw w hm hm2
  · exact votes_few ap m c draw w (by omega) hask hmc

theorem spot_of_cell {w : World} {a : Addr} {v : Value} (h : w.cell? a = some v) : a.spot = none := by
  unfold World.cell? at h
  split at h
  · cases hs : a.spot with
    | none => rfl
    | some x => rw [hs] at h; cases h
  · cases h
theorem weightsAll_mem {H : Type} {P : Program} {e : TypeId} {n : Nat} : ∀ {ds : List (DataW H)} {d : DataW H}, d ∈ ds → n ∈ d.weights P e → n ∈ DataW.weightsAll P e ds
  | [], _, hd, _ => by cases hd
  | x :: r, d, hd, hn => by
    unfold DataW.weightsAll
    rcases List.mem_cons.1 hd with rfl | hd
    · exact List.mem_append_left _ hn
    · exact List.mem_append_right _ (weightsAll_mem hd hn)

/-- Three numbers of a slice that was read. -/
theorem rd_three {H : Type} {enc : TypeId × Value → H} {w : World} {base : Nat} {spare : Nat → Bool} {held : Bool} {fuel : Nat} {na : Option Addr} {nc : Nat} {y : DataW H × List MemPlace}
    (h : DataW.trod enc Tryz.prog w base spare held fuel 34 [.slice na 3 nc] = some y) : ∃ x y z : Int, Rd w 1 (.slice na 3 nc) (intsV [x, y, z]) := by
  rcases open_slice Tryz.underlying34 h with ⟨hc, _⟩ | ⟨a, len, cap, m, n, D, Pl, hc, _, h1, h2, hm, _, hx⟩
  · simp at hc
  · simp only [List.cons.injEq, Value.slice.injEq, and_true] at hc
    obtain ⟨rfl, rfl, rfl⟩ := hc
    obtain ⟨b, off, sp⟩ := a
    have hlt : ∀ i, i < 3 → i < m := fun i hi => by rw [hm]; split <;> omega
    rw [show Tryz.prog.cellsOf 3 = 1 by kernel_rfl] at hx
    obtain rfl : sp = none := by
      obtain ⟨cs', g1, g2⟩ := hx 0 (hlt 0 (by omega))
      obtain ⟨v, rfl, -, -⟩ := DataW.trod_int Tryz.underlying3 g2
      have g4 : w.cell? ⟨b, off, sp⟩ = some (.int .i64 v) := by simpa [Addr.add] using cell_of_cells?_one g1
      exact spot_of_cell g4
    have key : ∀ i, i < 3 → ∃ v : Int, w.cell? ⟨b, off + i, none⟩ = some (.int .i64 v) := by
      intro i hi
      obtain ⟨cs', g1, g2⟩ := hx i (hlt i hi)
      obtain ⟨v, rfl, -, -⟩ := DataW.trod_int Tryz.underlying3 g2
      have g3 := cell_of_cells?_one g1
      rw [Addr.add_lit, Nat.mul_one] at g3
      exact ⟨v, g3⟩
    obtain ⟨v0, k0⟩ := key 0 (by omega)
    obtain ⟨v1, k1⟩ := key 1 (by omega)
    obtain ⟨v2, k2⟩ := key 2 (by omega)
    refine ⟨v0, v1, v2, some ⟨b, off, none⟩, 3, nc, rfl, rfl, h1, h2, fun p hp => by cases hp; rfl, fun _ => ⟨b, off, rfl, fun j u hu => ?_⟩⟩
    match j, hu with
    | 0, hu => cases hu; exact k0
    | 1, hu => cases hu; exact k1
    | 2, hu => cases hu; exact k2

set_option maxRecDepth 100000 in
/-- A message that lies in memory. -/
theorem open_ask {H : Type} {enc : TypeId × Value → H} {w : World} {base : Nat} {spare : Nat → Bool} {held : Bool} {fuel : Nat} {cs : List Value} {y : DataW H × List MemPlace} (h : DataW.trod enc Tryz.prog w base spare held fuel 37 cs = some y)
    (hw : ∀ n ∈ y.1.weights Tryz.prog 37, n ≤ reachBytes) :
    ∃ (fr tt kd : Int) (na da : Option Addr) (nn nc dn dc : Nat), cs = [.int .i64 fr, .int .i64 tt, .int .i64 kd, .slice na nn nc, .slice da dn dc] ∧ nn ≤ 140737488355328 ∧ dn ≤ 140737488355328 ∧ (nn = 3 → ∃ x y z : Int, Rd w 1 (.slice na 3 nc) (intsV [x, y, z])) := by
  obtain ⟨fs, hfs⟩ : ∃ fs, Tryz.prog.underlying 37 = some (.struct fs) := ⟨_, Tryz.underlying37⟩
  have hfs5 : fs.size = 5 ∧ ∀ i f, fs[i]? = some f → f.type = [3, 3, 3, 34, 35].getD i 0 := by
    have e := hfs.symm.trans Tryz.underlying37
    injection e with e
    injection e with e
    subst e
    refine ⟨rfl, fun i f hi => ?_⟩
    match i, hi with
    | 0, hi => cases hi; rfl
    | 1, hi => cases hi; rfl
    | 2, hi => cases hi; rfl
    | 3, hi => cases hi; rfl
    | 4, hi => cases hi; rfl
  have hone : Deep.oneCellFields Tryz.prog fs = true := by
    have e := hfs.symm.trans Tryz.underlying37
    injection e with e
    injection e with e
    exact (congrArg (Deep.oneCellFields Tryz.prog) e).trans (by kernel_rfl)
  obtain ⟨xs, n, _, rfl, hlen, hxl, hg⟩ := DataW.trod_struct hfs h
  rw [show Tryz.prog.cellsOf 37 = 5 by kernel_rfl] at hlen
  rw [hfs5.1] at hxl
  have hf : ∀ i, i < 5 → ∃ c y, cs[i]? = some c ∧ xs[i]? = some y ∧ DataW.trod enc Tryz.prog w base spare held n ([3, 3, 3, 34, 35].getD i 0) [c] = some y := by
    intro i hi
    have hfi : fs[i]? = some (fs[i]'(by omega)) := Array.getElem?_eq_getElem (by omega)
    have hci : cs[i]? = some (cs[i]'(by omega)) := List.getElem?_eq_getElem (by omega)
    obtain ⟨ho, hk⟩ := hone_of hone i _ hfi
    have h1 := hg i _ hfi
    have h2 : (cs.drop i).take 1 = [cs[i]'(by omega)] := by
      rw [List.drop_eq_getElem_cons (by omega)]
      rfl
    rw [ho, hk, h2, hfs5.2 i _ hfi] at h1
    exact ⟨_, xs[i]'(by omega), hci, List.getElem?_eq_getElem (by omega), h1.trans (List.getElem?_eq_getElem (by omega))⟩
  have hwt : ∀ i y, i < 5 → xs[i]? = some y → ∀ m ∈ y.1.weights Tryz.prog ([3, 3, 3, 34, 35].getD i 0), m ≤ reachBytes := by
    intro i y hi hy m hm
    refine hw m ?_
    have hfi : fs[i]? = some (fs[i]'(by omega)) := Array.getElem?_eq_getElem (by omega)
    have e : (DataW.agg (xs.map (·.1))).weights Tryz.prog 37 = DataW.weightsEach Tryz.prog (fs.toList.map (·.type)) (xs.map (·.1)) := by simp only [DataW.weights, hfs]
    rw [e]
    refine DataW.weights_mem_each (j := i) (t := [3, 3, 3, 34, 35].getD i 0) (d := y.1) ?_ (by rw [List.getElem?_map, hy]; rfl) m hm
    rw [List.getElem?_map, Array.getElem?_toList, hfi, ← hfs5.2 i _ hfi]
    rfl
  obtain ⟨c0, y0, g0, x0, t0⟩ := hf 0 (by omega)
  obtain ⟨c1, y1, g1, x1, t1⟩ := hf 1 (by omega)
  obtain ⟨c2, y2, g2, x2, t2⟩ := hf 2 (by omega)
  obtain ⟨c3, y3, g3, x3, t3⟩ := hf 3 (by omega)
  obtain ⟨c4, y4, g4, x4, t4⟩ := hf 4 (by omega)
  obtain ⟨fr, e0, -, -⟩ := DataW.trod_int Tryz.underlying3 t0
  obtain ⟨tt, e1, -, -⟩ := DataW.trod_int Tryz.underlying3 t1
  obtain ⟨kd, e2, -, -⟩ := DataW.trod_int Tryz.underlying3 t2
  obtain ⟨na, nn, nc, e3, -, -, hn⟩ := slice_reach Tryz.underlying34 (by rw [show Tryz.prog.bytesOf 3 = 8 by kernel_rfl]; omega) t3 (hwt 3 y3 (by omega) x3)
  obtain ⟨da, dn, dc, e4, -, -, hd⟩ := slice_reach Tryz.underlying35 (by rw [show Tryz.prog.bytesOf 5 = 1 by kernel_rfl]; omega) t4 (hwt 4 y4 (by omega) x4)
  rw [show Tryz.prog.bytesOf 3 = 8 by kernel_rfl] at hn
  rw [show Tryz.prog.bytesOf 5 = 1 by kernel_rfl] at hd
  refine ⟨fr, tt, kd, na, da, nn, nc, dn, dc, ?_, by omega, by omega, fun e => ?_⟩
  · match cs, hlen with
    | [a, b, c, d', e], _ =>
      simp only [List.getElem?_cons_zero, List.getElem?_cons_succ, Option.some.injEq] at g0 g1 g2 g3 g4
      subst g0 g1 g2 g3 g4
      simp only [List.cons.injEq, and_true] at e0 e1 e2
      rw [e0, e1, e2, e3, e4]
  · subst e
    subst e3
    exact rd_three t3

set_option maxRecDepth 100000 in
/-- The messages that come in. -/
theorem open_asks {H : Type} {enc : TypeId × Value → H} {w : World} {base : Nat} {spare : Nat → Bool} {held : Bool} {fuel : Nat} {ap : Option Addr} {m c : Nat} {y : DataW H × List MemPlace} (h : DataW.trod enc Tryz.prog w base spare held fuel 30 [.slice ap m c] = some y)
    (hw : ∀ n ∈ y.1.weights Tryz.prog 30, n ≤ reachBytes) : ∀ i, i < m → ∃ b off, ap = some ⟨b, off, none⟩ ∧ AskAt w b (off + i * 5) := by
  rcases open_slice Tryz.underlying30 h with ⟨hc, _⟩ | ⟨a, len, cap, k, n, D, Pl, hc, _, h1, h2, hm, hy, hx⟩
  · simp only [List.cons.injEq, Value.slice.injEq, and_true] at hc
    obtain ⟨-, rfl, -⟩ := hc
    exact fun i hi => absurd hi (Nat.not_lt_zero i)
  · simp only [List.cons.injEq, Value.slice.injEq, and_true] at hc
    obtain ⟨rfl, rfl, rfl⟩ := hc
    intro i hi
    obtain ⟨b, off, sp⟩ := a
    have hik : i < k := by rw [hm]; split <;> omega
    obtain rfl : sp = none := by
      obtain ⟨cs', g1, g2⟩ := hx 0 (by omega)
      rw [show Tryz.prog.cellsOf 37 = 5 by kernel_rfl] at g1
      obtain ⟨_, hl, hcell⟩ := World.cells?_some g1
      have k0 := hcell 0 (by omega)
      rw [List.getElem?_eq_getElem (by omega)] at k0
      exact spot_of_cell (a := ⟨b, off, sp⟩) (by simpa [Addr.add] using k0)
    obtain ⟨cs', g1, g2⟩ := hx i hik
    rw [show Tryz.prog.cellsOf 37 = 5 by kernel_rfl] at g1
    have hwi : ∀ n ∈ (D i).weights Tryz.prog 37, n ≤ reachBytes := by
      intro n hn
      refine hw n ?_
      have e : y.1.weights Tryz.prog 30 = (((List.range m).map D).length + ((List.range (k - m)).map fun j => D (m + j)).length) * Tryz.prog.bytesOf 37 :: (DataW.weightsAll Tryz.prog 37 ((List.range m).map D) ++ DataW.weightsAll Tryz.prog 37 ((List.range (k - m)).map fun j => D (m + j))) := by
        rw [hy]
        simp only [DataW.weights, Tryz.underlying30]
      rw [e]
      exact List.mem_cons_of_mem _ (List.mem_append_left _ (weightsAll_mem (List.mem_map_of_mem (List.mem_range.2 hi)) hn))
    obtain ⟨fr, tt, kd, na, da, nn, nc, dn, dc, rfl, hn, hd, hR⟩ := open_ask g2 hwi
    obtain ⟨_, _, hcell⟩ := World.cells?_some g1
    have k0 := hcell 0 (by omega)
    have k1 := hcell 1 (by omega)
    have k2 := hcell 2 (by omega)
    have k3 := hcell 3 (by omega)
    have k4 := hcell 4 (by omega)
    rw [Addr.add_lit, Addr.add_lit] at k0 k1 k2 k3 k4
    simp only [Nat.add_zero, List.getElem?_cons_zero, List.getElem?_cons_succ] at k0 k1 k2 k3 k4
    exact ⟨b, off, rfl, fr, tt, kd, na, da, nn, nc, dn, dc, k0, k1, k2, k3, k4, hn, hd, hR⟩
end Go.Proofs.YtgglbholbkdgfaaGreatDoor
namespace Go.Proofs.YtgglbholbkdgfaaGreatDoor.raftVotes
open Go.ChangeShapes Go.WideShapes Go.ChangeAt Go.RowKit

set_option maxRecDepth 100000 in
theorem contract (H : Type) (enc : TypeId × Value → H) (W : World) (base : Nat) (args : Array Value) (ds gs : List (DataW H)) (before : List MemPlace)
    (hval : ∀ (j : Nat) t v, Tryz.f5.params[j]? = some t → args[j]? = some v → Value.okWide Tryz.prog W .any base t v)
    (hW : DataW.Whole enc Tryz.prog Tryz.f5.params.toList Rows.raftVotesSpec.vars false W args.toList ds gs before)
    (hR : (DataW.weightsEach Tryz.prog Tryz.f5.params.toList ds).all (· ≤ reachBytes) = true) :
    Calls Tryz.prog 5 args W fun e W' => ∃ v, e = .returned v ∧ Rows.raftVotesSpec.post enc Tryz.prog Tryz.f5 false true false false W args v W' := by
  have hW' := hW
  obtain ⟨p, q, hA0, hV, rfl, hfz, hnd⟩ := hW
  have hA : DataW.TrodAll enc Tryz.prog W 0 (fun _ => true) true Tryz.f5.params.toList args.toList ds p := hA0
  rw [Tryz.params5] at hA hval hR
  obtain ⟨v0, vs0, d0, ds0, p0, q0, hargs, rfl, rfl, h0, r0⟩ := trodAll_cons hA
  obtain ⟨v1, vs1, d1, ds1, p1, q1, rfl, rfl, rfl, h1, r1⟩ := trodAll_cons r0
  obtain ⟨rfl, rfl, rfl⟩ := trodAll_nil r1
  obtain rfl : args = #[v0, v1] := by rw [← Array.toArray_toList (xs := args), hargs]
  obtain ⟨rfl, rfl⟩ := trodVars_none hV
  have hw := List.all_eq_true.1 hR
  obtain ⟨n1, rfl, rfl, rfl, w1⟩ := open_int Tryz.underlying3 (hval 1 3 v1 rfl rfl) h1
  obtain ⟨ba, bn, bc, rfl⟩ := okWide_slice Tryz.underlying30 (hval 0 30 v0 rfl rfl)
  obtain ⟨fuel, hf⟩ := h0
  have hwe : ∀ n ∈ d0.weights Tryz.prog 30, n ≤ reachBytes := fun n hn => by simpa using hw n (DataW.weights_mem_each (j := 0) rfl rfl n hn)
  have hask := open_asks (ap := ba) (m := bn) (c := bc) hf hwe
  obtain ⟨_, _, _, hv1, hc1, hc2, hb⟩ := slice_reach (v := .slice ba bn bc) Tryz.underlying30 (by rw [show Tryz.prog.bytesOf 37 = 72 by kernel_rfl]; omega) hf hwe
  cases hv1
  rw [show Tryz.prog.bytesOf 37 = 72 by kernel_rfl] at hb
  refine (votes_any ba bn bc n1 W (by omega) hask ⟨hc1, hc2⟩).mono fun e W' ⟨he, hg⟩ => ?_
  subst he
  exact ⟨_, rfl, law_post hW' rfl rfl rfl (by rw [Tryz.params5]; decide) (by kernel_rfl) hg.below⟩

theorem laid_met (os : Os) : laidMet Tryz.prog Rows.raftVotesRow.laid ((tabsWorld os).forCall (fun _ _ => 0) ⟨#[], #[.slice none 0 0, .int .i64 0], []⟩).memory :=
  laidMet_of_run' 8 (by kernel_rfl) (by kernel_rfl)
theorem reads (os : Os) {H : Type} (enc : TypeId × Value → H) : ∃ places, DataW.whole enc Tryz.prog ((tabsWorld os).forCall (fun _ _ => 0) ⟨#[], #[.slice none 0 0, .int .i64 0], []⟩).memory Tryz.f5.params.toList Rows.raftVotesSpec.vars false [Value.slice none 0 0, .int .i64 0] 8 =
    some ([.nil, .lit (.int .i64 0)], [], places) :=
  ⟨[], by kernel_rfl⟩

set_option maxRecDepth 100000 in
theorem lifted (os : Os) (started : os.Started) (H : Type) (enc : TypeId × Value → H) (F : Stop.Interp) :
    ReturnsInHanded {} Tryz.checked os 5 .any ((OpenSpec.ofChange Rows.raftVotesSpec).preRow enc Tryz.prog Tryz.f5 Rows.raftVotesRow.domain false Rows.raftVotesRow.laid) (((OpenSpec.ofChange Rows.raftVotesSpec).at F).post enc Tryz.prog Tryz.f5 false true false false) := by
  obtain ⟨places, hx⟩ := reads os enc
  refine returnsInHanded_of_row (C := Tryz.checked) (s := OpenSpec.ofChange Rows.raftVotesSpec) ownKnob_none started (by kernel_rfl) Tryz.func5
    (witness_row_at (enc := enc) (C := Tryz.checked) false (tabsWorld os) #[.slice none 0 0, .int .i64 0] rfl (by kernel_rfl) (by kernel_rfl) (by kernel_rfl)
      (OpenSpec.preRow_of_cond 8 hx (by kernel_rfl) (fun k hk => by cases hk) (by kernel_rfl) (laid_met os))) ?_
  intro W base args ds gs before hval hW _ _ hR hL _ _
  refine contract H enc W base args ds gs before hval hW ?_
  obtain ⟨_, _, _, hV, _⟩ := hW
  obtain ⟨rfl, -⟩ := trodVars_none hV
  have e : DataSpec.varTypes Tryz.checked.prog (OpenSpec.ofChange Rows.raftVotesSpec).bare.plain = [] := rfl
  rw [e, List.append_nil, List.append_nil] at hR
  exact hR

theorem said : Rows.RaftVotesSaid :=
  OpenClaim.holds_of_cond 5 Tryz.f5 rfl rfl rfl rfl rfl rfl rfl ⟨rfl, rfl, rfl, rfl, rfl⟩ rfl rfl rfl rfl rfl (by kernel_rfl) Tryz.func5 (by kernel_rfl)
    (of_decide_eq_true (by kernel_rfl)) (by unfold Func.isWrapper; first | (rw [if_pos (by decide +kernel)]; kernel_rfl) | (rw [if_neg (by decide +kernel)]; exact ⟨rfl, rfl⟩))
    (fun os started H enc _ F => by rw [OpenClaim.pre_eq_preRow]; exact lifted os started H enc F)

theorem plain (f : FuncId) (fn : Func) (hf : Tryz.pinned.checked.prog.funcNamed "garner/garnerlaw16.RaftVotes" = some f) (hfn : Tryz.pinned.checked.prog.funcs[f]? = some fn) :
    false = Tryz.pinned.checked.prog.looks [] ∧ ∀ (j : Nat) t, fn.params[j]? = some t → Tryz.pinned.checked.prog.wantsStandIn t = false := by
  obtain rfl : f = 5 := Option.some.inj ((show Tryz.prog.funcNamed "garner/garnerlaw16.RaftVotes" = some 5 by kernel_rfl).symm.trans hf) |>.symm
  obtain rfl : fn = Tryz.f5 := (Option.some.inj (Tryz.func5.symm.trans hfn)).symm
  refine ⟨by kernel_rfl, fun j t ht => ?_⟩
  rw [Tryz.params5] at ht
  have h : t = 30 ∨ t = 3 := by
    have h := Array.mem_of_getElem? ht
    simpa using h
  rcases h with rfl | rfl
  · exact (show Tryz.prog.wantsStandIn 30 = false by kernel_rfl)
  · exact (show Tryz.prog.wantsStandIn 3 = false by kernel_rfl)

theorem card : Rows.RaftVotesCardSaid :=
  Claim7.holds_tied_plain_at .later [] _ _ _ _ said (fun _ h => by cases h) (by kernel_rfl) (fun _ h => by cases h) raftVotes_row_tie rfl ⟨rfl, rfl⟩ (by kernel_rfl) rfl plain (by kernel_rfl)
#print axioms card
end Go.Proofs.YtgglbholbkdgfaaGreatDoor.raftVotes
