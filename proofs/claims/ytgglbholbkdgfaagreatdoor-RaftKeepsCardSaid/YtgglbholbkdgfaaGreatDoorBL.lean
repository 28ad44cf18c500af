/- The frame of the laws' rows: the world in which the listed variables hold what they start with; the last step of a row where the call leaves what was there alone. -/
import Derived.Test.YtgglbholbkdgfaaGreatDoorCards
import Derived.Test.YtgglbholbkdgfaaGreatDoorTie
import Derived.WalkKit
import Derived.ProofKit
import Derived.OpenShut
import Derived.Below
import Derived.ChangeSame
import Derived.Deep.DeepHandedRow
import Derived.Lib.SmallJoins
import Derived.Deep.Slices
import Derived.ReadAgain
import Derived.SizedLaws
set_option linter.unusedVariables false
set_option linter.unusedSimpArgs false
namespace Go.Proofs.YtgglbholbkdgfaaGreatDoor
open Go.ChangeShapes Go.WideShapes Go.ChangeAt Go.RowKit

/-- A world for the witness: the settled one, the listed tables holding what their initialisers lay. -/
def layCells (cs : Array Value) : Obj → Obj
  | .cells _ t frozen => .cells cs t frozen
  | o => o
noncomputable def tabsWorld (os : Os) : World :=
  { World.holding Tryz.prog os ⟨#[], #[], []⟩ with heap := (((World.holding Tryz.prog os ⟨#[], #[], []⟩).heap.modify 2 (layCells #[.int .u8 0, .int .u8 1, .int .u8 28, .int .u8 2, .int .u8 29, .int .u8 14, .int .u8 24, .int .u8 3, .int .u8 30, .int .u8 22, .int .u8 20, .int .u8 15, .int .u8 25, .int .u8 17, .int .u8 4, .int .u8 8, .int .u8 31, .int .u8 27, .int .u8 13, .int .u8 23, .int .u8 21, .int .u8 19, .int .u8 16, .int .u8 7, .int .u8 26, .int .u8 12, .int .u8 18, .int .u8 6, .int .u8 11, .int .u8 5, .int .u8 10, .int .u8 9])).modify 3 (layCells #[.int .u8 0, .int .u8 1, .int .u8 56, .int .u8 2, .int .u8 57, .int .u8 49, .int .u8 28, .int .u8 3, .int .u8 61, .int .u8 58, .int .u8 42, .int .u8 50, .int .u8 38, .int .u8 29, .int .u8 17, .int .u8 4, .int .u8 62, .int .u8 47, .int .u8 59, .int .u8 36, .int .u8 45, .int .u8 43, .int .u8 51, .int .u8 22, .int .u8 53, .int .u8 39, .int .u8 33, .int .u8 30, .int .u8 24, .int .u8 18, .int .u8 12, .int .u8 5, .int .u8 63, .int .u8 55, .int .u8 48, .int .u8 27, .int .u8 60, .int .u8 41, .int .u8 37, .int .u8 16, .int .u8 46, .int .u8 35, .int .u8 44, .int .u8 21, .int .u8 52, .int .u8 32, .int .u8 23, .int .u8 11, .int .u8 54, .int .u8 26, .int .u8 40, .int .u8 15, .int .u8 34, .int .u8 20, .int .u8 31, .int .u8 10, .int .u8 25, .int .u8 14, .int .u8 19, .int .u8 9, .int .u8 13, .int .u8 8, .int .u8 7, .int .u8 6])).modify 0 (layCells #[.int .u64 1, .int .u64 10, .int .u64 100, .int .u64 1000, .int .u64 10000, .int .u64 100000, .int .u64 1000000, .int .u64 10000000, .int .u64 100000000, .int .u64 1000000000, .int .u64 10000000000, .int .u64 100000000000, .int .u64 1000000000000, .int .u64 10000000000000, .int .u64 100000000000000, .int .u64 1000000000000000, .int .u64 10000000000000000, .int .u64 100000000000000000, .int .u64 1000000000000000000, .int .u64 10000000000000000000]) }
theorem ownKnob_none : ownKnob Tryz.prog.godebug = none := by kernel_rfl

theorem kidsAll : Kids Tryz.prog (· < Tryz.prog.types.size) := kids_rows (by kernel_rfl) (by kernel_rfl)
theorem fullAll : ∀ t e, t < Tryz.prog.types.size → Tryz.prog.underlying t = some (.slice e) → 0 < Tryz.prog.cellsOf e := slices_full_of Tryz.prog (by kernel_rfl)
section
variable {H : Type} {enc : TypeId × Value → H} {P : Program}
theorem trodAll_moves {w w' : World} {base : Nat} {spare : Nat → Bool} {held : Bool} : ∀ {ts : List TypeId} {vs : List Value} {ds : List (DataW H)} {ps : List MemPlace}, DataW.TrodAll enc P w base spare held ts vs ds ps → (∀ p ∈ ps, w.sameAt w' p) → DataW.TrodAll enc P w' base spare held ts vs ds ps
  | [], [], [], ps, h, _ => h
  | t :: ts, v :: vs, d :: ds, ps, ⟨p, q, ⟨n, h1⟩, h2, e⟩, hs => ⟨p, q, ⟨n, DataW.trod_carry n t _ _ h1 (fun x hx => hs x (by rw [e]; simp [hx]))⟩, trodAll_moves h2 (fun x hx => hs x (by rw [e]; simp [hx])), e⟩
theorem sameAt_below {w w' : World} (h : Below w.heap.size w w') {p : MemPlace} (hp : p.block < w.heap.size) : w.sameAt w' p := by
  cases p with
  | cell b off => exact h.cell (p := ⟨b, off, none⟩) hp
  | map b => exact h.block b hp
end
set_option maxRecDepth 100000 in
/-- THE ROW OF A LAW: it returns true; nothing that was there has turned. -/
theorem law_post {H : Type} {enc : TypeId × Value → H} {f : Func} {s : ChangeSpec} {W W' : World} {args : Array Value} {ds gs : List (DataW H)} {before : List MemPlace}
    (hW : DataW.Whole enc Tryz.prog f.params.toList s.vars false W args.toList ds gs before) (hv : s.vars = []) (hgs : gs = []) (hfn : s.fn H (ds ++ gs) = { results := [.lit (.bool true)], args := ds })
    (hts : ∀ t ∈ f.params.toList, t < Tryz.prog.types.size) (hres : f.resultTypes = #[4]) (hb : Below W.heap.size W W') : s.post enc Tryz.prog f false true false false W args (.bool true) W' := by
  have hall := hW
  obtain ⟨p, q, hA, hV, hpq, hfz, _⟩ := hW
  rw [hv, hgs] at hV
  obtain rfl : q = [] := hV
  rw [List.append_nil] at hpq
  subst hpq
  have hin : ∀ x ∈ before, x.block < W.heap.size := hall.lt
  have hargs' : ∀ sp : Nat → Bool, (∀ x ∈ before, sp x.block = true) → DataW.TrodAll enc Tryz.prog W' 0 sp true f.params.toList args.toList ds before := fun sp hsp =>
    DataW.TrodAll.respare kidsAll fullAll hts (trodAll_moves hA (fun x hx => sameAt_below hb (hin x hx))) hsp
  have hargs : ∀ sp : Nat → Bool, (∀ x ∈ before, sp x.block = true) → DataW.TrodAll enc Tryz.prog W' 0 sp true f.params.toList args.toList (s.fn H (ds ++ gs)).args before := by rw [hfn]; exact hargs'
  have hret : ∀ (b : Nat) (sp : Nat → Bool) (hd : Bool), DataW.TrodAll enc Tryz.prog W' b sp hd f.resultTypes.toList ((Value.bool true).resultList f.resultTypes.size) (s.fn H (ds ++ gs)).results [] := fun b sp hd => by
    rw [hfn, hres]
    exact trodAll_cons_mk (shut_bool Tryz.underlying4 _) trodAll_mk0
  have hvars : ∀ sp : Nat → Bool, DataW.TrodVars enc Tryz.prog W' sp s.vars (s.fn H (ds ++ gs)).vars [] := fun sp => by
    rw [hfn, hv]; rfl
  refine ⟨ds, gs, before, [], before, [], hall, hret _ _ _, hargs _ (fun x hx => decide_eq_true (hin x hx)), hvars _, World.keptBut_mono (fun x hx => ⟨hx, .inr (.inl hx)⟩) (hb.frame (· ∈ before)), fun _ => ?_⟩
  refine ⟨ok_one hres rfl (okWide_bool_mk Tryz.underlying4 _), _, _, ([] ++ before) ++ [], ⟨[] ++ before, [], trodAll_append (hargs _ (fun _ _ => rfl)) (hret _ _ _), hvars _, rfl, ?_, fun h => by cases h⟩, fun x hx _ => by simpa using hx⟩
  intro b off hx
  have hx' : MemPlace.cell b off ∈ before := by simpa using hx
  rw [hb.frozen (hin _ hx')]
  exact hfz b off hx'
section
variable {H : Type} {enc : TypeId × Value → H} {P : Program} {w : World} {base : Nat} {spare : Nat → Bool} {held : Bool}
/-- A slice that was read: how long it may be. -/
theorem slice_reach {t e : TypeId} {fuel : Nat} {v : Value} {y : DataW H × List MemPlace} (ht : P.underlying t = some (.slice e)) (he : 0 < P.bytesOf e) (h : DataW.trod enc P w base spare held fuel t [v] = some y)
    (hw : ∀ n ∈ y.1.weights P t, n ≤ reachBytes) : ∃ a n c, v = .slice a n c ∧ n ≤ c ∧ c ≤ maxLen ∧ n * P.bytesOf e ≤ 140737488355328 := by
  rcases Deep.open_slice ht h with ⟨hc, _⟩ | ⟨a, len, cap, m, n, D, Pl, hc, _, h1, h2, _, hx, _⟩
  · exact ⟨none, 0, 0, by simpa using hc, Nat.le_refl _, Nat.zero_le _, by simp⟩
  · refine ⟨some a, len, cap, by simpa using hc, h1, h2, ?_⟩
    have h3 := hw ((((List.range len).map D).length + ((List.range (m - len)).map fun j => D (len + j)).length) * P.bytesOf e) (by rw [hx]; simp [DataW.weights, ht])
    simp only [List.length_map, List.length_range] at h3
    have h4 : reachBytes = 140737488351232 := by decide
    have h5 : len * P.bytesOf e ≤ (len + (m - len)) * P.bytesOf e := Nat.mul_le_mul_right _ (by omega)
    omega
end
section
open Go.Joins Go.Deep
variable {H : Type} {enc : TypeId × Value → H} {P : Program} {w : World} {base : Nat} {spare : Nat → Bool} {held : Bool}
/-- A struct whose fields have one cell each, by value: field by field. -/
theorem open_cells {r : Reach} {b0 : Nat} {t : TypeId} {fs : Array Field} {v : Value} {d : DataW H} {p : List MemPlace} (hs : P.underlying t = some (.struct fs)) (hone : oneCellFields P fs = true) (hC : P.cellsOf t = fs.size)
    (hv : Value.okWide P w r b0 t v) (h : DataW.Trod enc P w base spare held t v d p) :
    ∃ (cs : Array Value) (xs : List (DataW H × List MemPlace)) (n : Nat), v = .agg cs ∧ cs.size = fs.size ∧ d = .agg (xs.map (·.1)) ∧ p = xs.flatMap (·.2) ∧ xs.length = fs.size ∧
      ∀ (i : Nat) (f : Field) (c : Value), fs[i]? = some f → cs[i]? = some c → ∃ y, xs[i]? = some y ∧ DataW.trod enc P w base spare held n f.type [c] = some y := by
  obtain ⟨cs, rfl, hsz⟩ := okWide_struct hs hv
  obtain ⟨fuel, hf⟩ := h
  obtain ⟨xs, n, _, hx, _, hlen, hg⟩ := DataW.trod_struct hs hf
  simp only [Prod.mk.injEq] at hx
  refine ⟨cs, xs, n, rfl, hsz.trans hC, hx.1, hx.2, hlen, fun i f c hi hc => ?_⟩
  have hil := (Array.getElem?_eq_some_iff.1 hi).1
  obtain ⟨ho, hk⟩ := hone_of hone i f hi
  have h1 := hg i f hi
  have h2 : ((Value.agg cs).cells.toList.drop i).take 1 = [c] := by
    obtain ⟨hl, he⟩ := Array.getElem?_eq_some_iff.1 hc
    show (cs.toList.drop i).take 1 = [c]
    rw [List.drop_eq_getElem_cons (by simpa using hl)]
    simp [he]
  rw [ho, hk, h2] at h1
  exact ⟨xs[i]'(by omega), List.getElem?_eq_getElem (by omega), h1.trans (List.getElem?_eq_getElem (by omega))⟩
end
set_option maxRecDepth 100000 in
/-- A message that comes in. -/
theorem open_msg {H : Type} {enc : TypeId × Value → H} {w : World} {base b0 : Nat} {spare : Nat → Bool} {held : Bool} {r : Reach} {v : Value} {d : DataW H} {p : List MemPlace} (hv : Value.okWide Tryz.prog w r b0 37 v) (h : DataW.Trod enc Tryz.prog w base spare held 37 v d p)
    (hw : ∀ n ∈ d.weights Tryz.prog 37, n ≤ reachBytes) :
    ∃ (fr tt kd : Int) (na da : Option Addr) (nn nc dn dc : Nat), v = .agg #[.int .i64 fr, .int .i64 tt, .int .i64 kd, .slice na nn nc, .slice da dn dc] ∧ nn * 8 ≤ 140737488355328 ∧ dn ≤ 140737488355328 := by
  obtain ⟨fs, hfs⟩ : ∃ fs, Tryz.prog.underlying 37 = some (.struct fs) := ⟨_, Tryz.underlying37⟩
  have hfs5 : fs.size = 5 ∧ ∀ i f, fs[i]? = some f → f.type = [3, 3, 3, 34, 35].getD i 0 := by
    have e := hfs.symm.trans Tryz.underlying37
    injection e with e
    injection e with e
    subst e
    refine ⟨rfl, fun i f hi => ?_⟩
    match i, hi with
    | 0, hi => cases hi; rfl
    | 1, hi => cases hi; rfl
    | 2, hi => cases hi; rfl
    | 3, hi => cases hi; rfl
    | 4, hi => cases hi; rfl
  have hone : Deep.oneCellFields Tryz.prog fs = true := by
    have e := hfs.symm.trans Tryz.underlying37
    injection e with e
    injection e with e
    exact (congrArg (Deep.oneCellFields Tryz.prog) e).trans (by kernel_rfl)
  obtain ⟨cs, xs, n, rfl, h1, rfl, -, h3, h4⟩ := open_cells hfs hone (by rw [hfs5.1]; kernel_rfl) hv h
  rw [hfs5.1] at h1 h3
  have hf : ∀ i, i < 5 → ∃ c y, cs[i]? = some c ∧ xs[i]? = some y ∧ DataW.trod enc Tryz.prog w base spare held n ([3, 3, 3, 34, 35].getD i 0) [c] = some y := by
    intro i hi
    have hfi : fs[i]? = some (fs[i]'(by omega)) := Array.getElem?_eq_getElem (by omega)
    have hci : cs[i]? = some (cs[i]'(by omega)) := Array.getElem?_eq_getElem (by omega)
    obtain ⟨y, hy, hd⟩ := h4 i _ _ hfi hci
    rw [hfs5.2 i _ hfi] at hd
    exact ⟨_, y, hci, hy, hd⟩
  have hwt : ∀ i y, i < 5 → xs[i]? = some y → ∀ m ∈ y.1.weights Tryz.prog ([3, 3, 3, 34, 35].getD i 0), m ≤ reachBytes := by
    intro i y hi hy m hm
    refine hw m ?_
    have hfi : fs[i]? = some (fs[i]'(by omega)) := Array.getElem?_eq_getElem (by omega)
    have e : (DataW.agg (xs.map (·.1))).weights Tryz.prog 37 = DataW.weightsEach Tryz.prog (fs.toList.map (·.type)) (xs.map (·.1)) := by simp only [DataW.weights, hfs]
    rw [e]
    refine DataW.weights_mem_each (j := i) (t := [3, 3, 3, 34, 35].getD i 0) (d := y.1) ?_ (by rw [List.getElem?_map, hy]; rfl) m hm
    rw [List.getElem?_map, Array.getElem?_toList, hfi, ← hfs5.2 i _ hfi]
    rfl
  obtain ⟨c0, y0, g0, x0, t0⟩ := hf 0 (by omega)
  obtain ⟨c1, y1, g1, x1, t1⟩ := hf 1 (by omega)
  obtain ⟨c2, y2, g2, x2, t2⟩ := hf 2 (by omega)
  obtain ⟨c3, y3, g3, x3, t3⟩ := hf 3 (by omega)
  obtain ⟨c4, y4, g4, x4, t4⟩ := hf 4 (by omega)
  obtain ⟨fr, e0, -, -⟩ := DataW.trod_int Tryz.underlying3 t0
  obtain ⟨tt, e1, -, -⟩ := DataW.trod_int Tryz.underlying3 t1
  obtain ⟨kd, e2, -, -⟩ := DataW.trod_int Tryz.underlying3 t2
  obtain ⟨na, nn, nc, e3, -, -, hn⟩ := slice_reach Tryz.underlying34 (by rw [show Tryz.prog.bytesOf 3 = 8 by kernel_rfl]; omega) t3 (hwt 3 y3 (by omega) x3)
  obtain ⟨da, dn, dc, e4, -, -, hd⟩ := slice_reach Tryz.underlying35 (by rw [show Tryz.prog.bytesOf 5 = 1 by kernel_rfl]; omega) t4 (hwt 4 y4 (by omega) x4)
  rw [show Tryz.prog.bytesOf 3 = 8 by kernel_rfl] at hn
  rw [show Tryz.prog.bytesOf 5 = 1 by kernel_rfl] at hd
  refine ⟨fr, tt, kd, na, da, nn, nc, dn, dc, ?_, hn, by omega⟩
  obtain ⟨l⟩ := cs
  match l, h1 with
  | [a, b, c, d', e], _ =>
    simp only [List.getElem?_toArray, List.getElem?_cons_zero, List.getElem?_cons_succ, Option.some.injEq] at g0 g1 g2 g3 g4
    subst g0 g1 g2 g3 g4
    simp only [List.cons.injEq, and_true] at e0 e1 e2 
    rw [e0, e1, e2, e3, e4]
end Go.Proofs.YtgglbholbkdgfaaGreatDoor
