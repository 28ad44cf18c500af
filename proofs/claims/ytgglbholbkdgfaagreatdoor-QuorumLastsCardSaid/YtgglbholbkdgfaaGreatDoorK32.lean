/- Joined texts: B150 B151. Each has its own head. -/
import Derived.Test.YtgglbholbkdgfaaGreatDoorK31
set_option linter.unusedVariables false
set_option linter.unusedSimpArgs false
namespace Go.Proofs.YtgglbholbkdgfaaGreatDoor
open Go.RowKit
def RowsQ (w : World) (rp : Option Addr) (rows : List (List UInt8)) : Prop :=
 ∀ i l, rows[i]? = some l → ∃ b off a c, rp = some ⟨b, off, none⟩ ∧ w.cell? ⟨b, off + i, none⟩ = some (.slice a l.length c) ∧ CellsB w a l ∧ l.length ≤ 140737488355328 ∧ l.length ≤ c ∧ c ≤ maxLen
def esR (rows : List (List UInt8)) (k : Nat) : List Ent := (rowLog k).map (subE (tokR rows))
set_option maxRecDepth 100000 in
set_option maxHeartbeats 16000000 in
theorem lasts_walk (n : Nat) (hn : n = 1 ∨ n = 3 ∨ n = 5) (A : Nat → PGroup) (hL : LastsRun n A) (rp : Option Addr) (m c : Nat) (draw : Int) (rows : List (List UInt8)) (w : World) (hm : rows.length = m) (hr : RowsQ w rp rows) (hm2 : m ≤ 12) (hsum : sumW rows ≤ 3000) :
  Calls Tryz.prog 11 #[.int .i64 (n : Int), .slice rp m c, .int .i64 draw] w fun e w' => e = .returned (.bool true) ∧ Ext NoB w w' := by
 have hφ := tokR_ok hsum
 have hzS := fun (w : World) => (show (zeroValue 68).run Tryz.prog w = .ok (.agg #[.int .i64 0, .int .i64 0, .int .i64 0, .int .i64 0, .int .i64 0, .int .i64 0, .int .u64 0, .int .u32 0, .slice none 0 0]) w by kernel_rfl)
 have Hr := Lib.hid hr
 have HL := Lib.hid (And.intro hL (And.intro hφ hsum))
 have Hnew := Lib.hid (NewG_any (φ := tokR rows) n hn w)
 have Hk := Lib.hid (fun (w' : World) => known17_any w')
 have hn5 : n ≤ 5 := by omega
 have hn1 : 1 ≤ n := by omega
 obtain ⟨md, hmd⟩ : ∃ md : Int, max 0 draw = md := ⟨_, rfl⟩
 have hmd0 : 0 ≤ md := by omega
 have hmd' : max draw 0 = md := by omega
 obtain ⟨sm, hsm⟩ : ∃ sm, sumW rows = sm := ⟨_, rfl⟩
 have Hsm := Lib.hid hsm
 have hsm3 : sm ≤ 3000 := by omega
 clear hr hL hφ hn hsum hsm
 go_enter Tryz.func11, Tryz.ntmps11
 go_wp2_with fail
 go_loopw [7, 8] (fun v i wr => ∃ k : Nat, v = .int .i64 ((sumW (rows.take k) : Nat) : Int) ∧ i = .int .i64 (k : Int) ∧ k ≤ m ∧ wr = w) (fun _ i _ => m - (intOf i).toNat)
 case atStart => exact ⟨0, rfl, rfl, by omega, rfl⟩
 case round =>
  obtain ⟨k, rfl, rfl, hk, hww⟩ := hrel
  obtain rfl := hww.symm
  obtain ⟨S, hS⟩ : ∃ S, sumW (rows.take k) = S := ⟨_, rfl⟩
  have hS3 : S ≤ 3000 := by
   have h1 := sumW_take_le rows k
   have h2 := Hsm.out
   omega
  have hS4' : (S : Int) ≤ 3000 := by omega
  rw [hS]
  by_cases hlt : k < m
  ·obtain ⟨l, hl⟩ : ∃ l, rows[k]? = some l := ⟨_, List.getElem?_eq_getElem (by omega)⟩
   obtain ⟨rb, ro, ra, rc, rfl, hck, hrd, hll, -, -⟩ := Hr.out k l hl
   have hnext := sumW_take hl
   rw [hS] at hnext
   have hk0 : (0 : Int) ≤ (k : Int) := by omega
   have hk1 : (k : Int) < (m : Int) := by omega
   have hkn : ((k : Int)).toNat = k := by omega
   have hw1 : IntKind.i64.wrap ((S : Int) + 1) = (S : Int) + 1 := IntWalk.i64_in _ (by omega)
   have hw2 : IntKind.i64.wrap ((S : Int) + 1 + (l.length : Int)) = (S : Int) + 1 + (l.length : Int) := IntWalk.i64_in _ (by omega)
   have hw3 : IntKind.i64.wrap ((k : Int) + 1) = (k : Int) + 1 := IntWalk.i64_in _ (by omega)
   have Hn := Lib.hid hnext
   have HS := Lib.hid hS
   clear hrd hnext hl hS
   go_wp2_with fail
   refine ⟨⟨k + 1, by rw [Hn.out]; go_num, by go_num, by omega, trivial⟩, ?_⟩
   show m - ((k : Int) + 1).toNat < m - ((k : Int)).toNat
   omega
  ·obtain rfl : k = m := by omega
   have q3 : ¬ ((3000 : Int) < (S : Int)) := by omega
   have q4 : ¬ ((12 : Int) < (k : Int)) := by omega
   clear hS hlt
   go_wp2_with fail
   refine Hnew.out.mono ?_; rintro e w1 ⟨g, rfl, hN⟩
   obtain ⟨B0, hB0, hlast0⟩ := HL.out.1.at 0 (by omega)
   have hA0 := HL.out.1.len 0 (by omega)
   have hset0 := settle_k (k := 200) HL.out.2.1 (GK.of hN) (by omega) (by rw [← HL.out.1.zero, hA0.1, hA0.2]) (by rw [← HL.out.1.zero]; exact hB0)
   have Hset0 := Lib.hid hset0
   have HB0 := Lib.hid hB0
   clear hN hB0 hlast0 hA0 hset0 Hnew
   go_wp2_with fail
   refine Hset0.out.mono ?_; rintro e w2 ⟨rfl, hN⟩
   have HN := Lib.hid hN
   clear hN Hset0
   go_wp2_with fail
   go_loopw [11, 12, 13, 14, 15, 16, 17] (fun v i _ _ _ _ _ wr => ∃ (r : Nat) (B : PGroup), i = .int .i64 (r : Int) ∧ r ≤ k ∧ Hid (PGroup.settle (ticksOf r) (A r) = some B) ∧ Hid (GK w wr g (tokR rows) B v (esR rows r)) ∧ Hid (∀ (j : Nat) (l : List UInt8), j < r → rows[j]? = some l → 1 ≤ l.length)) (fun _ i _ _ _ _ _ _ => k - (intOf i).toNat)
   case atStart => exact ⟨0, B0, rfl, by omega, HB0, HN, Lib.hid (fun j l h => by omega)⟩
   case round =>
    obtain ⟨r, B, rfl, hr, HB, HG, Hne⟩ := hrel
    obtain ⟨va, vc, rfl⟩ := HG.out.shape
    obtain ⟨es, hes⟩ : ∃ es, esR rows r = es := ⟨_, rfl⟩
    have hel : es.length = 2 * r := by rw [← hes, esR, List.length_map, rowLog_len]
    obtain ⟨el, hele⟩ : ∃ el, es.length = el := ⟨_, rfl⟩
    rw [hes, hele] at HG ⊢
    rw [hele] at hel
    have Hes := Lib.hid (And.intro hes (And.intro hele hel))
    clear hes hele hel
    by_cases hlt : r < k
    ·obtain ⟨l, hl⟩ : ∃ l, rows[r]? = some l := ⟨_, List.getElem?_eq_getElem (by omega)⟩
     obtain ⟨rb, ro, ra, rc, rfl, hck, hcl, hll, hlc, hcm⟩ := Hr.out r l hl
     have hx := HG.out.ext
     have hckr := hx.cell hck (fun h => h)
     have hk0 : (0 : Int) ≤ (r : Int) := by omega
     have hk1 : (r : Int) < (k : Int) := by omega
     have hkn : ((r : Int)).toNat = r := by omega
     have hw3 : IntKind.i64.wrap ((r : Int) + 1) = (r : Int) + 1 := IntWalk.i64_in _ (by omega)
     obtain ⟨ln, hln⟩ : ∃ ln, l.length = ln := ⟨_, rfl⟩
     rw [hln] at hckr hck hll hlc
     have Hl := Lib.hid (And.intro hl (And.intro hck (And.intro hcl (And.intro hln (And.intro hlc hcm)))))
     clear hl hck hcl hln hlc hcm hx
     by_cases hz : ln = 0
     ·subst hz
      go_wp2_with fail
      refine (Hk.out _).mono ?_; rintro e w3 ⟨rfl, x3⟩
      have Hx3 := Lib.hid (HG.out.ext.trans x3)
      clear x3
      go_wp2_with fail
      go_ret
      exact ⟨rfl, Hx3.out⟩
     ·have hz0 : ((ln : Int) == 0) = false := beq_eq_false_iff_ne.2 (by omega)
      have hln1 : 1 ≤ ln := by omega
      obtain ⟨B', P, S, C, T', hst⟩ := HL.out.1.stage r (by omega)
      obtain rfl : B' = B := Option.some.inj (hst.run.symm.trans HB.out)
      have hkA := HL.out.1.len r (by omega)
      have hkA1 := HL.out.1.len (r + 1) (by omega)
      have kB := settle_keep _ _ _ hst.run
      have hBl : B'.mem.length = n ∧ B'.n = n := ⟨kB.1.trans hkA.1, kB.2.trans hkA.2⟩
      have Hst := Lib.hid (And.intro hst (And.intro hBl hkA1))
      have hzz : ¬ (ln = 0) := hz
      clear hst hkA hkA1 kB hBl hz HB
      go_wp2_with fail
      go_loopw [13] (fun i wr => ∃ (j : Nat) (Gj : PGroup), i = .int .i64 (j : Int) ∧ j ≤ n ∧ Hid (Gj.proposeAll [UInt8.ofNat (r + 1)] (n - j) j = some P ∧ Gj.mem.length = n ∧ Gj.n = n) ∧ Hid (GK w wr g (tokR rows) Gj (.slice va el vc) es)) (fun i _ => n - (intOf i).toNat)
      case atStart => exact ⟨0, B', rfl, by omega, Lib.hid ⟨Hst.out.1.prop, Hst.out.2.1.1, Hst.out.2.1.2⟩, HG⟩
      case round =>
       obtain ⟨j, Gj, rfl, hj, HP, HGj⟩ := hrel
       by_cases hjn : j < n
       ·have hjn' : (j : Int) < (n : Int) := by omega
        have hwj : IntKind.i64.wrap ((j : Int) + 1) = (j : Int) + 1 := IntWalk.i64_in _ (by omega)
        have hp := HP.out.1
        obtain ⟨f, hf⟩ : ∃ f, n - j = f + 1 := ⟨n - j - 1, by omega⟩
        rw [hf] at hp
        obtain ⟨pn, pc, G1, hp1, hp2⟩ := proposeAll_succ hp
        have kp := propose_keep hp1
        have hrow := tokR_row Hl.out.1 (by omega)
        have Hpr := Lib.hid (propose_k (pn := ln) HL.out.2.1 HGj.out (by rw [HP.out.2.1, HP.out.2.2]) hp1 (by rw [hrow]; exact Hl.out.2.2.1.rd Hl.out.2.2.2.1 Hl.out.2.2.2.2.1 Hl.out.2.2.2.2.2 hln1) hln1 (by rw [hrow]; exact Hl.out.2.2.2.1))
        have HP1 := Lib.hid (And.intro (show G1.proposeAll [UInt8.ofNat (r + 1)] (n - (j + 1)) (j + 1) = some P by rw [show n - (j + 1) = f by omega]; exact hp2) (And.intro (kp.1.trans HP.out.2.1) (kp.2.trans HP.out.2.2)))
        have hckj := HGj.out.ext.cell Hl.out.2.1 (fun h => h)
        clear hp hf hp1 hp2 kp hrow hckr
        go_wp2_with fail
        refine Hpr.out.mono ?_; rintro e w4 ⟨rfl, hgk⟩
        have Hgk := Lib.hid hgk
        clear hgk hckj
        go_wp2_with fail
        go_roundw
        case rel => exact ⟨j + 1, G1, by go_num, by omega, HP1, Hgk⟩
        case measure => simp [intOf]; omega
       ·obtain rfl : j = n := by omega
        obtain rfl : Gj = P := by
         have := HP.out.1
         rw [Nat.sub_self, PGroup.proposeAll] at this
         exact Option.some.inj this
        have Hset := Lib.hid (settle_k (k := 5) HL.out.2.1 HGj.out (by omega) (by rw [HP.out.2.1, HP.out.2.2]) Hst.out.1.five)
        clear hjn
        go_wp2_with fail
        refine Hset.out.mono ?_; rintro e w5 ⟨rfl, hgk⟩
        have HN5 := Lib.hid hgk
        clear hgk Hset
        go_wp2_with fail
        go_loopw [11, 14, 15] (fun v i _ wr => ∃ (q : Nat) (qa : Option Addr) (qc qn : Nat) (qs : List Ent), i = .int .i64 (q : Int) ∧ q ≤ j ∧ v = .slice qa qn qc ∧ qn = (if q = 0 then 2 * r else 2 * (r + 1)) ∧ Hid ((1 ≤ q → qs = esR rows (r + 1)) ∧ qs.length = qn) ∧ Hid (GK w wr g (tokR rows) S (.slice qa qn qc) qs)) (fun _ i _ _ => j - (intOf i).toNat)
        case atStart => exact ⟨0, va, vc, el, es, rfl, by omega, rfl, by rw [if_pos rfl]; exact Hes.out.2.2, Lib.hid ⟨fun h => by omega, Hes.out.2.1⟩, HN5⟩
        case round =>
         obtain ⟨q, qa, qc, qn, qs, rfl, hq, rfl, hqn, HQ, HGq⟩ := hrel
         by_cases hqj : q < j
         ·obtain ⟨mm, hmm, _, htook⟩ := Hst.out.1.took.is q hqj
          have Htk := Lib.hid (taken_k HL.out.2.1 HGq.out (by rw [Hst.out.1.took.len, Hst.out.1.took.num]) hmm (by rw [htook, rowLog_len]; omega))
          rw [htook] at Htk
          have hqj' : (q : Int) < (j : Int) := by omega
          have hwq : IntKind.i64.wrap ((q : Int) + 1) = (q : Int) + 1 := IntWalk.i64_in _ (by omega)
          have Hqn := Lib.hid hqn
          clear hmm htook hqn
          go_wp2_with fail
          refine Htk.out.mono ?_; rintro e w6 ⟨v2, rfl, hgk, hgk2⟩
          obtain ⟨a2, c2, rfl⟩ := hgk2.shape
          have hl2 : ((rowLog (r + 1)).map (subE (tokR rows))).length = 2 * (r + 1) := by rw [List.length_map, rowLog_len]
          obtain ⟨n2, hn2⟩ : ∃ n2, ((rowLog (r + 1)).map (subE (tokR rows))).length = n2 := ⟨_, rfl⟩
          rw [hn2] at hgk2 hl2 ⊢
          have Hg1 := Lib.hid hgk
          have Hg2 := Lib.hid hgk2
          have Hl2 := Lib.hid (And.intro hl2 hn2)
          clear hgk hgk2 hn2 Htk
          by_cases hq0 : q = 0
          ·have hgt : (qn : Int) < (n2 : Int) := by have := Hqn.out; rw [if_pos hq0] at this; omega
           have Hq0 := Lib.hid hq0
           clear hq0 hl2
           go_wp2_with fail
           go_roundw
           case rel => exact ⟨q + 1, a2, c2, n2, _, by go_num, by omega, rfl, by rw [if_neg (by omega)]; exact Hl2.out.1, Lib.hid ⟨fun _ => rfl, Hl2.out.2⟩, Hg2⟩
           case measure => simp [intOf]; omega
          ·have hgt : ¬ ((qn : Int) < (n2 : Int)) := by have := Hqn.out; rw [if_neg hq0] at this; omega
           have Hq0 := Lib.hid hq0
           clear hq0 hl2
           go_wp2_with fail
           go_roundw
           case rel => exact ⟨q + 1, qa, qc, qn, qs, by go_num, by omega, rfl, by rw [if_neg (by omega)]; have := Hqn.out; rwa [if_neg Hq0.out] at this, Lib.hid ⟨fun _ => HQ.out.1 (by have := Hq0.out; omega), HQ.out.2⟩, Hg1⟩
           case measure => simp [intOf]; omega
         ·obtain rfl : q = j := by omega
          rw [if_neg (by omega)] at hqn
          obtain rfl : qs = esR rows (r + 1) := HQ.out.1 (by omega)
          have Hqn := Lib.hid hqn
          clear hqn hqj
          obtain ⟨es1, hes1⟩ : ∃ es1, esR rows (r + 1) = es1 := ⟨_, rfl⟩
          rw [hes1] at HGq
          have Hes1 := Lib.hid hes1
          clear hes1 HQ
          go_wp2_with fail
          go_loopw [16] (fun i wr => ∃ (y : Nat) (Gj : PGroup), i = .int .i64 (y : Int) ∧ y ≤ q ∧ Hid (Gj.crashes (q - y) y = some C ∧ Gj.mem.length = q ∧ Gj.n = q) ∧ Hid (GK w wr g (tokR rows) Gj (.slice qa qn qc) es1)) (fun i _ => q - (intOf i).toNat)
          case atStart => exact ⟨0, S, rfl, by omega, Lib.hid ⟨Hst.out.1.cr, Hst.out.1.took.len, Hst.out.1.took.num⟩, HGq⟩
          case round =>
           obtain ⟨y, Gj, rfl, hy, HC, HGy⟩ := hrel
           by_cases hyq : y < q
           ·have hyq' : (y : Int) < (q : Int) := by omega
            have hwy : IntKind.i64.wrap ((y : Int) + 1) = (y : Int) + 1 := IntWalk.i64_in _ (by omega)
            have hp := HC.out.1
            obtain ⟨f, hf⟩ : ∃ f, q - y = f + 1 := ⟨q - y - 1, by omega⟩
            rw [hf] at hp
            obtain ⟨G1, hp1, hp2⟩ := crashes_succ hp
            have kp := crash_keep hp1
            have Hcr := Lib.hid (crash_k HGy.out (by rw [HC.out.2.1, HC.out.2.2]) hp1 md hmd0)
            have HC1 := Lib.hid (And.intro (show G1.crashes (q - (y + 1)) (y + 1) = some C by rw [show q - (y + 1) = f by omega]; exact hp2) (And.intro (kp.1.trans HC.out.2.1) (kp.2.trans HC.out.2.2)))
            clear hp hf hp1 hp2 kp
            go_wp2_with fail
            refine Hcr.out.mono ?_; rintro e w7 ⟨rfl, hgk⟩
            have Hgk := Lib.hid hgk
            clear hgk
            go_wp2_with fail
            go_roundw
            case rel => exact ⟨y + 1, G1, by go_num, by omega, HC1, Hgk⟩
            case measure => simp [intOf]; omega
           ·obtain rfl : y = q := by omega
            obtain rfl : Gj = C := by
             have := HC.out.1
             rw [Nat.sub_self, PGroup.crashes] at this
             exact Option.some.inj this
            clear hyq
            go_wp2_with fail
            go_loopw [17] (fun i wr => ∃ (z : Nat) (Gz : PGroup), i = .int .i64 (z : Int) ∧ z ≤ y ∧ Hid (Gz.startAll (y - z) z = some T' ∧ Gz.mem.length = y ∧ Gz.n = y) ∧ Hid (GK w wr g (tokR rows) Gz (.slice qa qn qc) es1)) (fun i _ => y - (intOf i).toNat)
            case atStart => exact ⟨0, Gj, rfl, by omega, Lib.hid ⟨Hst.out.1.st, HC.out.2.1, HC.out.2.2⟩, HGy⟩
            case round =>
             obtain ⟨z, Gz, rfl, hz, HZ, HGz⟩ := hrel
             by_cases hzy : z < y
             ·have hzy' : (z : Int) < (y : Int) := by omega
              have hwz : IntKind.i64.wrap ((z : Int) + 1) = (z : Int) + 1 := IntWalk.i64_in _ (by omega)
              have hp := HZ.out.1
              obtain ⟨f, hf⟩ : ∃ f, y - z = f + 1 := ⟨y - z - 1, by omega⟩
              rw [hf] at hp
              obtain ⟨G1, hp1, hp2⟩ := startAll_succ hp
              have kp := start_keep hp1
              have Hcr := Lib.hid (start_k HL.out.2.1 HGz.out (by rw [HZ.out.2.1, HZ.out.2.2]) hp1)
              have HC1 := Lib.hid (And.intro (show G1.startAll (y - (z + 1)) (z + 1) = some T' by rw [show y - (z + 1) = f by omega]; exact hp2) (And.intro (kp.1.trans HZ.out.2.1) (kp.2.trans HZ.out.2.2)))
              clear hp hf hp1 hp2 kp
              go_wp2_with fail
              refine Hcr.out.mono ?_; rintro e w7 ⟨rfl, hgk⟩
              have Hgk := Lib.hid hgk
              clear hgk
              go_wp2_with fail
              go_roundw
              case rel => exact ⟨z + 1, G1, by go_num, by omega, HC1, Hgk⟩
              case measure => simp [intOf]; omega
             ·obtain rfl : z = y := by omega
              obtain rfl : Gz = T' := by
               have := HZ.out.1
               rw [Nat.sub_self, PGroup.startAll] at this
               exact Option.some.inj this
              obtain ⟨Bn, hBn, _⟩ := HL.out.1.at (r + 1) (by omega)
              have Hset := Lib.hid (settle_k (k := 120) HL.out.2.1 (HGz.out.like Hst.out.1.lk) (by omega) (by rw [Hst.out.2.2.1, Hst.out.2.2.2]) hBn)
              have HBn := Lib.hid hBn
              have Hne1 : Hid (∀ (j : Nat) (l : List UInt8), j < r + 1 → rows[j]? = some l → 1 ≤ l.length) := Lib.hid (fun j l' hj hl' => by
               by_cases hjr : j = r
               ·subst hjr
                have h1 := Hl.out.1
                rw [hl'] at h1
                rw [Option.some.inj h1, Hl.out.2.2.2.1]
                exact hln1
               ·exact Hne.out j l' (by omega) hl')
              clear hzy hBn
              go_wp2_with fail
              refine Hset.out.mono ?_; rintro e w8 ⟨rfl, hgk⟩
              have Hgk := Lib.hid hgk
              clear hgk Hset
              go_wp2_with fail
              go_roundw
              case rel => exact ⟨r + 1, Bn, by go_num, by omega, HBn, by rw [Hes1.out]; exact Hgk, Hne1⟩
              case measure => simp [intOf]; omega
    ·obtain rfl : r = k := by omega
     obtain ⟨B2, hB2, D, hD, hDt⟩ := HL.out.1.at r (by omega)
     obtain rfl : B2 = B := Option.some.inj (hB2.symm.trans HB.out)
     have hkA := HL.out.1.len r (by omega)
     have kB := settle_keep _ _ _ hB2
     have Hset := Lib.hid (settle_k (k := 100) HL.out.2.1 HG.out (by omega) (by rw [kB.1, kB.2, hkA.1, hkA.2]) hD)
     have HD := Lib.hid hDt
     clear hB2 hD hDt hkA kB HB HG hlt
     go_wp2_with fail
     refine Hset.out.mono ?_; rintro e w3 ⟨rfl, hgk⟩
     have HN3 := Lib.hid hgk
     clear hgk Hset
     go_wp2_with fail
     go_loopw [18, 19] (fun i _ wr => ∃ z : Nat, i = .int .i64 (z : Int) ∧ z ≤ n ∧ Hid (GK w wr g (tokR rows) D (.slice va el vc) es)) (fun i _ _ => n - (intOf i).toNat)
     case atStart => exact ⟨0, rfl, by omega, HN3⟩
     case round =>
      obtain ⟨z, rfl, hz, HGz⟩ := hrel
      by_cases hzn : z < n
      ·obtain ⟨mm, hmm, _, htook⟩ := HD.out.is z hzn
       have hl2 : (rowLog r ++ [(r + 1, [])]).length = 2 * r + 1 := by rw [List.length_append, rowLog_len]; rfl
       have Htk := Lib.hid (taken_k HL.out.2.1 HGz.out (by rw [HD.out.len, HD.out.num]) hmm (by rw [htook, hl2]; omega))
       rw [htook] at Htk
       have hzn' : (z : Int) < (n : Int) := by omega
       have hwz : IntKind.i64.wrap ((z : Int) + 1) = (z : Int) + 1 := IntWalk.i64_in _ (by omega)
       clear hmm htook hl2
       go_wp2_with fail
       refine Htk.out.mono ?_; rintro e w6 ⟨v2, rfl, hgk, hgk2⟩
       obtain ⟨a2, c2, rfl⟩ := hgk2.shape
       obtain ⟨ea, hea⟩ : ∃ ea, (rowLog r ++ [(r + 1, [])]).map (subE (tokR rows)) = ea := ⟨_, rfl⟩
       rw [hea] at hgk2 ⊢
       have hlea : ea.length = 2 * r + 1 := by rw [← hea, List.length_map, List.length_append, rowLog_len]; rfl
       have heaes : ea = es ++ [subE (tokR rows) (r + 1, [])] := by rw [← hea, List.map_append, ← Hes.out.1]; rfl
       have hel3 : ∀ e ∈ ea, e.2.length ≤ 3000 := fun e he => by
        rw [← hea] at he
        obtain ⟨y, _, rfl⟩ := List.mem_map.1 he
        exact HL.out.2.1.len y.2
       obtain ⟨n2, hn2⟩ : ∃ n2, ea.length = n2 := ⟨_, rfl⟩
       have hsame : Calls Tryz.prog 33 #[.slice a2 n2 c2, .slice va el vc] w6 fun e w' => e = .returned (.bool true) ∧ ∃ m, w' = w6.drewN m := by
        obtain ⟨_, _, _, _, _, _, ms1, p1, p2, _⟩ := hgk2
        obtain ⟨_, _, _, _, _, _, ms2, s1, s2, _⟩ := hgk
        rw [hn2] at p2
        have h1 := Hes.out.2.1
        have h2 := Hes.out.2.2
        exact same2_any a2 va c2 vc n2 el el ms1 ms2 ea es w6 p1 p2 s1 s2 hn2 h1 (by omega) (by rw [heaes, List.take_append_of_le_length (by omega)]) (by omega) hel3
       rw [hn2]
       have hngt : ¬ ((n2 : Int) < (el : Int)) := by have := Hes.out.2.2; omega
       have Hsame := Lib.hid hsame
       have Hgk := Lib.hid hgk
       clear hgk hgk2 hea hlea heaes hel3 hn2 hsame Htk
       go_wp2_with fail
       refine Hsame.out.mono ?_; rintro e w7 ⟨rfl, hm7⟩
       have Hg7 : Hid (GK w w7 g (tokR rows) D (.slice va el vc) es) := Lib.hid (by obtain ⟨mm, rfl⟩ := hm7; exact Hgk.out.no ((Ext.refl _ w6).drewN _))
       clear hm7
       go_wp2_with fail
       go_roundw
       case rel => exact ⟨z + 1, by go_num, by omega, Hg7⟩
       case measure => simp [intOf]; omega
      ·obtain rfl : z = n := by omega
       clear hzn
       go_wp2_with fail
       obtain ⟨wS, hwS⟩ : ∃ wS : World, wS = _ := ⟨_, rfl⟩
       have HS := Lib.hid hwS
       have HGS : Hid (GK w wS g (tokR rows) D (.slice va el vc) es) := Lib.hid (by rw [HS.out]; exact HGz.out)
       have H0 : Hid (∃ mm, _ = wS.drewN mm) := Lib.hid ⟨0, HS.out.symm⟩
       clear hwS HS HGz
       go_loopw [20, 21] (fun f i wr => ∃ x : Nat, i = .int .i64 (x : Int) ∧ f = .int .i64 ((x / 2 : Nat) : Int) ∧ x ≤ el ∧ Hid (∃ mm, wr = wS.drewN mm)) (fun _ i _ => el - (intOf i).toNat)
       case atStart => exact ⟨0, rfl, rfl, by omega, H0⟩
       case round =>
        obtain ⟨x, rfl, rfl, hx, HX⟩ := hrel
        obtain ⟨t, ht⟩ : ∃ t, x / 2 = t := ⟨_, rfl⟩
        rw [ht]
        by_cases hxe : x < el
        ·have htr : t < r := by have := Hes.out.2.2; omega
         obtain ⟨l, hl⟩ : ∃ l, rows[t]? = some l := ⟨_, List.getElem?_eq_getElem (by omega)⟩
         obtain ⟨rb, ro, ra, rc, rfl, hck, hcl, hll, -, -⟩ := Hr.out t l hl
         have hln1 := Hne.out t l htr hl
         obtain ⟨_, _, _, hAS, hXS, _, ms2, s1, s2, _⟩ := HGS.out
         obtain ⟨_, _, _, e2, _, _, _, _, hca⟩ := s2.rd
         cases e2
         have hg := rowLog_get r t htr
         have hodd : x = 2 * t ∨ x = 2 * t + 1 := by omega
         obtain ⟨et, ed, hent, hres⟩ : ∃ et ed, es[x]? = some (et, ed) ∧ ((x + 1) / 2 = (if eqB ed l = true then t + 1 else t)) ∧ ed.length ≤ 3000 := by
          rcases hodd with h | h
          ·refine ⟨t + 1, [], ?_, ?_, Nat.zero_le _⟩
           ·rw [← Hes.out.1, esR, List.getElem?_map, h, hg.1]; rfl
           ·rw [eqB_not (fun h => by rw [← h] at hln1; simp at hln1), if_neg (by decide)]; omega
          ·refine ⟨t + 1, l, ?_, ?_, ?_⟩
           ·rw [← Hes.out.1, esR, List.getElem?_map, h, hg.2]
            show some (t + 1, tokR rows [UInt8.ofNat (t + 1)]) = _
            rw [tokR_row hl (by omega)]
           ·rw [eqB_of rfl, if_pos rfl]; omega
           ·have := sumW_mem (List.mem_of_getElem? hl)
            have := HL.out.2.2
            omega
         obtain ⟨dv, q0, q1, hod⟩ := s1.get x _ hent
         have hne0 : ms2.flatten ≠ [] := fun e => by rw [e] at q0; cases q0
         obtain ⟨bb, off, rfl, hcc⟩ := hca hne0
         obtain ⟨mm, hmm⟩ := HX.out
         have hxx : Ext NoB wS wr := by rw [hmm]; exact (Ext.refl _ wS).drewN _
         have d1 := hxx.cell (hcc _ _ q1) (fun h => h)
         rw [← Nat.add_assoc] at d1
         have d2 := (hXS.trans hxx).cell hck (fun h => h)
         obtain ⟨da, dc, rfl, _⟩ := RdB.shape (l := ed) hod.rd
         obtain ⟨dn, hdn⟩ : ∃ dn, ed.length = dn := ⟨_, rfl⟩
         obtain ⟨ln, hln⟩ : ∃ ln, l.length = ln := ⟨_, rfl⟩
         rw [hdn] at d1
         rw [hln] at d2
         have hsm := fun (w' : World) (hx' : Ext NoB wr w') => same17_any da ra dc rc dn ln ed l w' (RdB.cells (l := ed) (hod.ext (hxx.trans hx') (fun _ _ h => h)).rd) (hcl.no ((hXS.trans hxx).trans hx')) hdn hln (by omega)
         have Hsm := Lib.hid hsm
         have Hmm := Lib.hid hmm
         have Hres := Lib.hid hres.1
         have Ht := Lib.hid ht
         obtain ⟨bv, hbv⟩ : ∃ bv, eqB ed l = bv := ⟨_, rfl⟩
         rw [hbv] at Hsm Hres
         have hx0 : (0 : Int) ≤ (x : Int) := by omega
         have hx1 : (x : Int) < (el : Int) := by omega
         have hxn : ((x : Int)).toNat = x := by omega
         have ht0 : (0 : Int) ≤ (t : Int) := by omega
         have ht1 : (t : Int) < (r : Int) := by omega
         have htn : ((t : Int)).toNat = t := by omega
         have hwx : IntKind.i64.wrap ((x : Int) + 1) = (x : Int) + 1 := IntWalk.i64_in _ (by omega)
         have hwt : IntKind.i64.wrap ((t : Int) + 1) = (t : Int) + 1 := IntWalk.i64_in _ (by omega)
         clear hl hck hcl hll hln1 hAS hXS s1 s2 hca hg hodd hent hres q0 q1 hod hne0 hcc hmm hxx hdn hln hsm ht hbv
         go_wp2_with fail
         refine wp_region_N (fun w' => w'.cell? ⟨bb, off + x * 2 + 1, none⟩ = some (.slice da dn dc) ∧ w'.cell? ⟨rb, ro + t, none⟩ = some (.slice ra ln rc)) 16 (by kernel_rfl) ?_
         have hSd : wr.drew.cell? ⟨bb, off + x * 2 + 1, none⟩ = some (.slice da dn dc) ∧ wr.drew.cell? ⟨rb, ro + t, none⟩ = some (.slice ra ln rc) := ⟨d1, d2⟩
         have hmd : wr.drew = wS.drewN (mm + 1) := by rw [Hmm.out]; rfl
         have Hmd := Lib.hid hmd
         have xd : Ext NoB wr wr.drew := (Ext.refl _ wr).drew
         generalize wr.drew = wd at hSd xd Hmd ⊢
         clear d1 d2 hmd
         refine wpAnyN_free 0 (v := ?_) (by kernel_rfl) rfl (fun _ _ _ h => h) hSd (by kernel_rfl) ?_ ?_; rotate_left; (focus (intro w; go_simp; try with_reducible rfl)); (try simp only [Act.put]); (try simp only [List.setIfInBounds_toArray, List.set_cons_zero, List.set_cons_succ])
         refine wpAnyN_free 1 (v := ?_) (by kernel_rfl) rfl (fun _ _ _ h => h) hSd (by kernel_rfl) ?_ ?_; rotate_left; (focus (intro w; go_simp; try with_reducible rfl)); (try simp only [Act.put]); (try simp only [List.setIfInBounds_toArray, List.set_cons_zero, List.set_cons_succ])
         refine wpAnyN_free 2 (v := ?_) (by kernel_rfl) rfl (fun _ _ _ h => h) hSd (by kernel_rfl) ?_ ?_; rotate_left; (focus (intro w; go_simp; try with_reducible rfl)); (try simp only [Act.put]); (try simp only [List.setIfInBounds_toArray, List.set_cons_zero, List.set_cons_succ])
         refine wpAnyN_free 3 (v := ?_) (by kernel_rfl) rfl (fun _ _ _ h => h) hSd (by kernel_rfl) ?_ ?_; rotate_left; (focus (intro w; go_simp; try with_reducible rfl)); (try simp only [Act.put]); (try simp only [List.setIfInBounds_toArray, List.set_cons_zero, List.set_cons_succ])
         refine wpAnyN_free 4 (v := ?_) (by kernel_rfl) rfl (fun _ _ _ h => h) hSd (by kernel_rfl) ?_ ?_; rotate_left; (focus (intro w; go_simp; try with_reducible rfl)); (try simp only [Act.put]); (try simp only [List.setIfInBounds_toArray, List.set_cons_zero, List.set_cons_succ])
         refine wpAnyN_free 5 (v := ?_) (by kernel_rfl) rfl (fun _ _ _ h => h) hSd (by kernel_rfl) ?_ ?_; rotate_left; (focus (intro w; go_simp; try with_reducible rfl)); (try simp only [Act.put]); (try simp only [List.setIfInBounds_toArray, List.set_cons_zero, List.set_cons_succ])
         refine wpAnyN_free 6 (v := ?_) (by kernel_rfl) rfl (fun _ _ _ h => h) hSd (by kernel_rfl) ?_ ?_; rotate_left; (focus (intro w; go_simp; try with_reducible rfl)); (try simp only [Act.put]); (try simp only [List.setIfInBounds_toArray, List.set_cons_zero, List.set_cons_succ])
         refine wpAnyN_free 7 (v := ?_) (by kernel_rfl) rfl (fun _ _ _ h => h) hSd (by kernel_rfl) ?_ ?_; rotate_left; (focus (intro w; go_simp; try with_reducible rfl)); (try simp only [Act.put]); (try simp only [List.setIfInBounds_toArray, List.set_cons_zero, List.set_cons_succ])
         refine wpAnyN_free 8 (v := ?_) (by kernel_rfl) rfl (fun _ _ _ h => h) hSd (by kernel_rfl) ?_ ?_; rotate_left; (focus (intro w; go_simp; try with_reducible rfl)); (try simp only [Act.put]); (try simp only [List.setIfInBounds_toArray, List.set_cons_zero, List.set_cons_succ])
         refine wpAnyN_take 9 (v := ?_) (by kernel_rfl) rfl (fun _ _ _ h => h) hSd (by kernel_rfl) ?_ ?_; rotate_left; (focus (intro w hSw; (try dsimp only at hSw); go_simp; try with_reducible rfl)); (try simp only [Act.put]); (try simp only [List.setIfInBounds_toArray, List.set_cons_zero, List.set_cons_succ])
         refine wpAnyN_free 10 (v := ?_) (by kernel_rfl) rfl (fun _ _ _ h => h) hSd (by kernel_rfl) ?_ ?_; rotate_left; (focus (intro w; go_simp; try with_reducible rfl)); (try simp only [Act.put]); (try simp only [List.setIfInBounds_toArray, List.set_cons_zero, List.set_cons_succ])
         refine wpAnyN_free 11 (v := ?_) (by kernel_rfl) rfl (fun _ _ _ h => h) hSd (by kernel_rfl) ?_ ?_; rotate_left; (focus (intro w; go_simp; try with_reducible rfl)); (try simp only [Act.put]); (try simp only [List.setIfInBounds_toArray, List.set_cons_zero, List.set_cons_succ])
         refine wpAnyN_free 12 (v := ?_) (by kernel_rfl) rfl (fun _ _ _ h => h) hSd (by kernel_rfl) ?_ ?_; rotate_left; (focus (intro w; go_simp; try with_reducible rfl)); (try simp only [Act.put]); (try simp only [List.setIfInBounds_toArray, List.set_cons_zero, List.set_cons_succ])
         refine wpAnyN_take 13 (v := ?_) (by kernel_rfl) rfl (fun _ _ _ h => h) hSd (by kernel_rfl) ?_ ?_; rotate_left; (focus (intro w hSw; (try dsimp only at hSw); go_simp; try with_reducible rfl)); (try simp only [Act.put]); (try simp only [List.setIfInBounds_toArray, List.set_cons_zero, List.set_cons_succ])
         refine wpAnyN_one 14 (by kernel_rfl) (by simp only [List.getElem?_toArray, List.getElem?_cons_succ, List.getElem?_cons_zero] <;> rfl) (by kernel_rfl) (fun K hK => ?_)
         go_simp
         refine (Hsm.out wd xd).mono ?_; rintro e w9 ⟨rfl, hm9⟩
         have HX9 : Hid (∃ m, w9 = wS.drewN m) := Lib.hid (by obtain ⟨m2, rfl⟩ := hm9; exact ⟨mm + 1 + m2, by rw [Hmd.out, World.drewN_drewN]⟩)
         have x9 : Ext NoB wd w9 := by obtain ⟨m2, rfl⟩ := hm9; exact (Ext.refl _ wd).drewN _
         have hS9 : w9.cell? ⟨bb, off + x * 2 + 1, none⟩ = some (.slice da dn dc) ∧ w9.cell? ⟨rb, ro + t, none⟩ = some (.slice ra ln rc) := ⟨x9.cell hSd.1 (fun h => h), x9.cell hSd.2 (fun h => h)⟩
         clear hm9 x9 xd
         go_wp2_with fail
         refine hK.out _ _ hS9 (fun hSd => ?_)
         clear hK K hSd
         have hSd := hS9
         (try simp only [Act.put]); (try simp only [List.setIfInBounds_toArray, List.set_cons_zero, List.set_cons_succ])
         refine wpAnyN_free 15 (v := ?_) (by kernel_rfl) rfl (fun _ _ _ h => h) hSd (by kernel_rfl) ?_ ?_; rotate_left; (focus (intro w; go_simp; try with_reducible rfl)); (try simp only [Act.put]); (try simp only [List.setIfInBounds_toArray, List.set_cons_zero, List.set_cons_succ])
         refine wpAnyN_tail (by rfl) (by decide) (by kernel_rfl) (by kernel_rfl) ?_
         simp only [List.drop_succ_cons, List.drop_zero]
         clear hSd hS9
         cases bv with
         | true =>
          go_wp2_with fail
          go_roundw
          case rel => exact ⟨x + 1, by go_num, by rw [Hres.out, if_pos rfl]; go_num, by omega, HX9⟩
          case measure => simp [intOf]; omega
         | false =>
          go_wp2_with fail
          go_roundw
          case rel => exact ⟨x + 1, by go_num, by rw [Hres.out, if_neg (by decide)], by omega, HX9⟩
          case measure => simp [intOf]; omega
        ·obtain rfl : x = el := by omega
         obtain rfl : t = r := by have := Hes.out.2.2; omega
         have Ht := Lib.hid ht
         clear ht hxe
         go_wp2_with fail
         have HgE : Hid (Ext NoB w wr) := Lib.hid (by obtain ⟨mm, hmm⟩ := HX.out; exact HGS.out.ext.trans (by rw [hmm]; exact (Ext.refl _ wS).drewN _))
         refine (Hk.out wr).mono ?_; rintro e w9 ⟨rfl, x9⟩
         have Hx9 := Lib.hid (HgE.out.trans x9)
         clear x9
         go_wp2_with fail
         go_ret
         exact ⟨rfl, Hx9.out⟩
end Go.Proofs.YtgglbholbkdgfaaGreatDoor
namespace Go.Proofs.YtgglbholbkdgfaaGreatDoor
open Go.RowKit
set_option maxRecDepth 100000 in
set_option maxHeartbeats 8000000 in
theorem lasts_light (n : Int) (rp : Option Addr) (m c : Nat) (draw : Int) (rows : List (List UInt8)) (w : World) (hm : rows.length = m) (hr : RowsQ w rp rows) (hm2 : m ≤ 140737488355328) (hbad : (m ≤ 12 ∧ sumW rows ≤ 3000) → n ≠ 1 ∧ n ≠ 3 ∧ n ≠ 5) :
  Calls Tryz.prog 11 #[.int .i64 n, .slice rp m c, .int .i64 draw] w fun e w' => e = .returned (.bool true) ∧ Ext NoB w w' := by
 have Hr := Lib.hid hr
 have Hbad := Lib.hid hbad
 clear hr hbad
 go_enter Tryz.func11, Tryz.ntmps11
 go_wp2_with fail
 go_loopw [7, 8] (fun v i wr => ∃ k : Nat, v = .int .i64 ((sumW (rows.take k) : Nat) : Int) ∧ i = .int .i64 (k : Int) ∧ k ≤ m ∧ wr = w) (fun _ i _ => m - (intOf i).toNat)
 case atStart => exact ⟨0, rfl, rfl, by omega, rfl⟩
 case round =>
  obtain ⟨k, rfl, rfl, hk, hww⟩ := hrel
  obtain rfl := hww.symm
  obtain ⟨S, hS⟩ : ∃ S, sumW (rows.take k) = S := ⟨_, rfl⟩
  rw [hS]
  by_cases hgo : k < m ∧ S ≤ 3000
  ·obtain ⟨hlt, hS4⟩ := hgo
   obtain ⟨l, hl⟩ : ∃ l, rows[k]? = some l := ⟨_, List.getElem?_eq_getElem (by omega)⟩
   obtain ⟨rb, ro, ra, rc, rfl, hck, hrd, hll, -, -⟩ := Hr.out k l hl
   have hnext := sumW_take hl
   rw [hS] at hnext
   have hk0 : (0 : Int) ≤ (k : Int) := by omega
   have hk1 : (k : Int) < (m : Int) := by omega
   have hkn : ((k : Int)).toNat = k := by omega
   have hS4' : (S : Int) ≤ 3000 := by omega
   have hw1 : IntKind.i64.wrap ((S : Int) + 1) = (S : Int) + 1 := IntWalk.i64_in _ (by omega)
   have hw2 : IntKind.i64.wrap ((S : Int) + 1 + (l.length : Int)) = (S : Int) + 1 + (l.length : Int) := IntWalk.i64_in _ (by omega)
   have hw3 : IntKind.i64.wrap ((k : Int) + 1) = (k : Int) + 1 := IntWalk.i64_in _ (by omega)
   have Hn := Lib.hid hnext
   clear hrd hnext hl hS
   go_wp2_with fail
   refine ⟨⟨k + 1, by rw [Hn.out]; go_num, by go_num, by omega, trivial⟩, ?_⟩
   show m - ((k : Int) + 1).toNat < m - ((k : Int)).toNat
   omega
  ·have hexit : (k < m ∧ 3000 < S) ∨ (k = m ∧ 3000 < S) ∨ (k = m ∧ S ≤ 3000 ∧ 12 < m) ∨ (k = m ∧ S ≤ 3000 ∧ m ≤ 12) := by omega
   clear hgo
   rcases hexit with ⟨h1, h2⟩ | ⟨h1, h2⟩ | ⟨h1, h2, h3⟩ | ⟨h1, h2, h3⟩
   ·have q1 : (k : Int) < (m : Int) := by omega
    have q2 : ¬ ((S : Int) ≤ 3000) := by omega
    have q3 : (3000 : Int) < (S : Int) := by omega
    clear hS
    go_wp2_with fail
    refine (known17_any w).mono ?_; rintro e w3 ⟨rfl, x3⟩
    go_wp2_with fail
    go_ret
    exact ⟨rfl, x3⟩
   ·subst h1
    have q2 : ¬ ((S : Int) ≤ 3000) := by omega
    have q3 : (3000 : Int) < (S : Int) := by omega
    clear hS
    go_wp2_with fail
    refine (known17_any w).mono ?_; rintro e w3 ⟨rfl, x3⟩
    go_wp2_with fail
    go_ret
    exact ⟨rfl, x3⟩
   ·subst h1
    have q3 : ¬ ((3000 : Int) < (S : Int)) := by omega
    have q4 : (12 : Int) < (k : Int) := by omega
    clear hS
    go_wp2_with fail
    refine (known17_any w).mono ?_; rintro e w3 ⟨rfl, x3⟩
    go_wp2_with fail
    go_ret
    exact ⟨rfl, x3⟩
   ·subst h1
    have q3 : ¬ ((3000 : Int) < (S : Int)) := by omega
    have q4 : ¬ ((12 : Int) < (k : Int)) := by omega
    have hsum : sumW rows ≤ 3000 := by rw [List.take_of_length_le (by omega)] at hS; omega
    obtain ⟨b1, b3, b5⟩ := Hbad.out ⟨h3, hsum⟩
    have Hnew := Lib.hid (new_bad n b1 b3 b5 w)
    clear hS hsum b1 b3 b5
    go_wp2_with fail
    refine Hnew.out.mono ?_; rintro e w2 ⟨rfl, x2⟩
    have Hx2 := Lib.hid x2
    clear x2
    go_wp2_with fail
    refine (known17_any w2).mono ?_; rintro e w3 ⟨rfl, x3⟩
    have Hx3 := Lib.hid (Hx2.out.trans x3)
    clear x3
    go_wp2_with fail
    go_ret
    exact ⟨rfl, Hx3.out⟩
theorem lasts_any (n : Int) (rp : Option Addr) (m c : Nat) (draw : Int) (rows : List (List UInt8)) (w : World) (hm : rows.length = m) (hr : RowsQ w rp rows) (hm2 : m ≤ 140737488355328) :
  Calls Tryz.prog 11 #[.int .i64 n, .slice rp m c, .int .i64 draw] w fun e w' => e = .returned (.bool true) ∧ Ext NoB w w' := by
 by_cases h : (m ≤ 12 ∧ sumW rows ≤ 3000) ∧ (n = 1 ∨ n = 3 ∨ n = 5)
 ·obtain ⟨⟨h1, h2⟩, rfl | rfl | rfl⟩ := h
  ·exact lasts_walk 1 (by omega) _ lasts1 rp m c draw rows w hm hr h1 h2
  ·exact lasts_walk 3 (by omega) _ lasts3 rp m c draw rows w hm hr h1 h2
  ·exact lasts_walk 5 (by omega) _ lasts5 rp m c draw rows w hm hr h1 h2
 ·exact lasts_light n rp m c draw rows w hm hr hm2 (fun hh => by omega)
end Go.Proofs.YtgglbholbkdgfaaGreatDoor
