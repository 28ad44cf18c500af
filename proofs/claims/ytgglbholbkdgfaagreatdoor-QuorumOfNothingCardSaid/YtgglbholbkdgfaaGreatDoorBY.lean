/- garnerlaw17: a Step that comes in: nine cells. -/
import Derived.Test.YtgglbholbkdgfaaGreatDoorBL
import Derived.Deep.Strs
set_option linter.unusedVariables false
set_option linter.unusedSimpArgs false
namespace Go.Proofs.YtgglbholbkdgfaaGreatDoor
open Go.ChangeShapes Go.WideShapes Go.ChangeAt Go.RowKit
set_option maxRecDepth 100000 in
theorem open_step {H : Type} {enc : TypeId × Value → H} {w : World} {base b0 : Nat} {spare : Nat → Bool} {held : Bool} {r : Reach} {v : Value} {d : DataW H} {p : List MemPlace} (hv : Value.okWide Tryz.prog w r b0 68 v) (h : DataW.Trod enc Tryz.prog w base spare held 68 v d p) :
    ∃ (a b c d k v' ky co : Int) (qa : Option Addr) (qn qc : Nat), v = .agg #[.int .i64 a, .int .i64 b, .int .i64 c, .int .i64 d, .int .i64 k, .int .i64 v', .int .u64 ky, .int .u32 co, .slice qa qn qc] := by
  obtain ⟨cs, rfl, hsz⟩ := okWide_struct Tryz.underlying68 hv
  rw [show Tryz.prog.cellsOf 68 = 9 by kernel_rfl] at hsz
  obtain ⟨fuel, hf⟩ := h
  obtain ⟨xs, n, _, -, -, hlen, hg⟩ := DataW.trod_struct Tryz.underlying68 hf
  have k1 : Tryz.prog.cellsOf 3 = 1 := by kernel_rfl
  have k2 : Tryz.prog.cellsOf 66 = 5 := by kernel_rfl
  have k3 : Tryz.prog.cellsOf 64 = 3 := by kernel_rfl
  have k4 : Tryz.prog.cellsOf 61 = 1 := by kernel_rfl
  have k5 : Tryz.prog.cellsOf 62 = 1 := by kernel_rfl
  have k6 : Tryz.prog.cellsOf 35 = 1 := by kernel_rfl
  obtain ⟨l⟩ := cs
  match l, hsz, xs, hlen with
  | [c0, c1, c2, c3, c4, c5, c6, c7, c8], _, [y0, y1, y2, y3, y4], _ =>
    have h0 : DataW.trod enc Tryz.prog w base spare held n 3 ([c0, c1, c2, c3, c4, c5, c6, c7, c8].take (Tryz.prog.cellsOf 3)) = some y0 := hg 0 _ rfl
    have h1 : DataW.trod enc Tryz.prog w base spare held n 3 ([c1, c2, c3, c4, c5, c6, c7, c8].take (Tryz.prog.cellsOf 3)) = some y1 := hg 1 _ rfl
    have h2 : DataW.trod enc Tryz.prog w base spare held n 3 ([c2, c3, c4, c5, c6, c7, c8].take (Tryz.prog.cellsOf 3)) = some y2 := hg 2 _ rfl
    have h3 : DataW.trod enc Tryz.prog w base spare held n 3 ([c3, c4, c5, c6, c7, c8].take (Tryz.prog.cellsOf 3)) = some y3 := hg 3 _ rfl
    have h4 : DataW.trod enc Tryz.prog w base spare held n 66 ([c4, c5, c6, c7, c8].take (Tryz.prog.cellsOf 66)) = some y4 := hg 4 _ rfl
    rw [k1] at h0 h1 h2 h3
    rw [k2] at h4
    obtain ⟨z0, z1, z2, n1, -, -, g0, g1, g2⟩ := Deep.trod_struct3 Tryz.underlying66 h4
    replace g0 : DataW.trod enc Tryz.prog w base spare held n1 3 ([c4, c5, c6, c7, c8].take (Tryz.prog.cellsOf 3)) = some z0 := g0
    replace g1 : DataW.trod enc Tryz.prog w base spare held n1 64 ([c5, c6, c7, c8].take (Tryz.prog.cellsOf 64)) = some z1 := g1
    replace g2 : DataW.trod enc Tryz.prog w base spare held n1 35 ([c8].take (Tryz.prog.cellsOf 35)) = some z2 := g2
    rw [k1] at g0
    rw [k3] at g1
    rw [k6] at g2
    obtain ⟨u0, u1, u2, n2, -, -, f0, f1, f2⟩ := Deep.trod_struct3 Tryz.underlying64 g1
    replace f0 : DataW.trod enc Tryz.prog w base spare held n2 3 ([c5, c6, c7].take (Tryz.prog.cellsOf 3)) = some u0 := f0
    replace f1 : DataW.trod enc Tryz.prog w base spare held n2 61 ([c6, c7].take (Tryz.prog.cellsOf 61)) = some u1 := f1
    replace f2 : DataW.trod enc Tryz.prog w base spare held n2 62 ([c7].take (Tryz.prog.cellsOf 62)) = some u2 := f2
    rw [k1] at f0
    rw [k4] at f1
    rw [k5] at f2
    obtain ⟨a, e0, -, -⟩ := DataW.trod_int Tryz.underlying3 h0
    obtain ⟨b, e1, -, -⟩ := DataW.trod_int Tryz.underlying3 h1
    obtain ⟨c, e2, -, -⟩ := DataW.trod_int Tryz.underlying3 h2
    obtain ⟨d', e3, -, -⟩ := DataW.trod_int Tryz.underlying3 h3
    obtain ⟨k, e4, -, -⟩ := DataW.trod_int Tryz.underlying3 g0
    obtain ⟨v', e5, -, -⟩ := DataW.trod_int Tryz.underlying3 f0
    obtain ⟨ky, e6, -, -⟩ := DataW.trod_int Tryz.underlying61 f1
    obtain ⟨co, e7, -, -⟩ := DataW.trod_int Tryz.underlying62 f2
    have e8 : ∃ qa qn qc, c8 = .slice qa qn qc := by
      rcases DataW.trod_slice Tryz.underlying35 g2 with ⟨hc, _⟩ | ⟨ad, len, cap, _, _, _, _, hc, _⟩
      · exact ⟨none, 0, 0, by simpa using hc⟩
      · exact ⟨some ad, len, cap, by simpa using hc⟩
    obtain ⟨qa, qn, qc, rfl⟩ := e8
    simp only [List.take_succ_cons, List.take_zero, List.cons.injEq, and_true] at e0 e1 e2 e3 e4 e5 e6 e7
    rw [e0, e1, e2, e3, e4, e5, e6, e7]
    exact ⟨a, b, c, d', k, v', ky, co, qa, qn, qc, rfl⟩
end Go.Proofs.YtgglbholbkdgfaaGreatDoor
