/- Package frame: Encode, Decode. -/
import Derived.Test.YtgglbholbkdgfaaGreatDoorB4
namespace Go.Proofs.YtgglbholbkdgfaaGreatDoor
open Go.RowKit

/-- A record's bytes (frame.Encode). -/
def enc (p : List UInt8) : List UInt8 := be 4 p.length ++ be 4 (crc (be 4 p.length ++ p)) ++ p
theorem enc_length (p : List UInt8) : (enc p).length = p.length + 8 := by simp [enc, be_length]; omega

set_option maxRecDepth 100000 in
set_option maxHeartbeats 1000000 in
theorem Encode_any (s : Value) (l : List UInt8) (w : World) (hs : RdB w s l) (hlen : l.length ≤ 1048576) :
    Calls Tryz.prog 108 #[s] w fun e w' => ∃ v, e = .returned (.tuple #[v, .int .i64 0]) ∧ Own w' 5 1 v (bytesV (enc l)) ∧ Fresh w v ∧ Ext NoB w w' := by
  obtain ⟨a, c, rfl, hn, hc⟩ := Rd.shape hs
  simp only [bytesV_length] at hn ⊢ hs
  have hwr : IntKind.u32.wrap (l.length : Int) = ((l.length : Nat) : Int) := by rw [IntKind.wrap_u32]; omega
  go_enter Tryz.func108, Tryz.ntmps108
  go_wp2_with fail
  refine (Put32_any l.length (by omega) _).mono ?_
  rintro e w1 ⟨v1, rfl, o1, f1, x1⟩
  go_wp2_with fail
  refine (bytesClone_any _ _ _ o1.rd (by simp [be_length])).mono ?_
  rintro e w2 ⟨v2, rfl, o2, f2, x2⟩
  have x02 := x1.trans x2
  have s2 := Lib.hid (Rd.src (P := Tryz.prog) unBytes (hs.no x02) (bytesV_one l) (by decide))
  go_wp2_with (at_builtin; refine wpList_app _ rfl (.tmp 14) (.tmp 15) 35 35 rfl 5 1 1 unBytes elByte o2 s2.out rfl rfl (by simp [be_length]; omega) (by decide) ?_; intro v3 w3 o3 x3 h3)
  have x03 : Ext NoB w w3 := (f2.mono x1.size).ext x02 x3
  have o3' : RdB w3 v3 (be 4 l.length ++ l) := by unfold RdB; rw [bytesV_append]; exact o3.rd
  refine (Sum_any _ _ _ o3' (by simp [be_length]; omega)).mono ?_
  rintro e w4 ⟨rfl, x4⟩
  have hcl := crc_lt (be 4 l.length ++ l)
  obtain ⟨q, hq⟩ : ∃ q, crc (be 4 l.length ++ l) = q := ⟨_, rfl⟩
  rw [hq] at hcl ⊢
  have Hq := Lib.hid hq
  clear hq
  go_wp2_with fail
  refine (Put32_any q (by omega) _).mono ?_
  rintro e w5 ⟨v5, rfl, o5, f5, x5⟩
  have x15 : Ext NoB w1 w5 := ((f2.ext x2 x3).trans x4).trans x5
  have x05 : Ext NoB w w5 := x1.trans x15
  have s5 := Lib.hid (Rd.src (P := Tryz.prog) unBytes o5.rd (bytesV_one (be 4 q)) (by decide))
  have o15 := o1.no x15
  go_wp2_with (first
    | (at_builtin; refine wpList_app _ rfl (.tmp 18) (.tmp 20) 35 35 rfl 5 1 1 unBytes elByte o15 s5.out rfl rfl (by simp [be_length]) (by decide) ?_; intro v6 w6 o6 x6 h6; have s6 := Lib.hid (Rd.src (P := Tryz.prog) unBytes (hs.no (f1.ext x05 x6)) (bytesV_one l) (by decide)))
    | (at_builtin; refine wpList_app _ rfl (.tmp 21) (.tmp 22) 35 35 rfl 5 1 1 unBytes elByte o6 s6.out rfl rfl (by simp [be_length]; omega) (by decide) ?_; intro v7 w7 o7 x7 h7))
  go_ret2
  have f6 : Fresh w v6 := f1.app x05.size h6
  have x06 : Ext NoB w w6 := f1.ext x05 x6
  refine ⟨v7, rfl, ?_, f6.app x06.size h7, f6.ext x06 x7⟩
  unfold enc
  rw [Hq.out, bytesV_append, bytesV_append]
  exact o7

set_option maxRecDepth 100000 in
set_option maxHeartbeats 400000 in
theorem Encode_long (s : Value) (l : List UInt8) (w : World) (hs : RdB w s l) (hlen : 1048576 < l.length) :
    Calls Tryz.prog 108 #[s] w fun e w' => e = .returned (.tuple #[.slice none 0 0, .int .i64 5]) ∧ w = w' := by
  obtain ⟨a, c, rfl, hn, hc⟩ := Rd.shape hs
  simp only [bytesV_length] at hn ⊢ hs
  go_enter Tryz.func108, Tryz.ntmps108
  go_wp2_with fail
  go_ret2
  exact ⟨rfl, rfl⟩

theorem szByte : (Tryz.prog.info? 5).map (·.size) = some 1 := by kernel_rfl

/-- frame.Decode: the payload, how many bytes the record takes, the error. -/
def dec (b : List UInt8) : List UInt8 × Nat × Nat :=
  if b.length < 8 then ([], 0, 2) else
  if 1048576 < beV (b.take 4) then ([], 0, 5) else
  if b.length < 8 + beV (b.take 4) then ([], 0, 2) else
  if crc (b.take 4 ++ (b.drop 8).take (beV (b.take 4))) = beV ((b.drop 4).take 4) then ((b.drop 8).take (beV (b.take 4)), 8 + beV (b.take 4), 0) else ([], 0, 4)

/-- What is said of a Decode's ending. -/
def DecEnds (l : List UInt8) (w : World) (e : Ending) (w' : World) : Prop :=
  ∃ v, e = .returned (.tuple #[v, .int .i64 (dec l).2.1, .int .i64 (dec l).2.2]) ∧ Own w' 5 1 v (bytesV (dec l).1) ∧ Fresh w v ∧ Ext NoB w w'

theorem decErr {l : List UInt8} {w w' : World} {n : Nat} (h : dec l = ([], 0, n)) (x : Ext NoB w w') : DecEnds l w (.returned (.tuple #[.slice none 0 0, .int .i64 0, .int .i64 n])) w' :=
  ⟨.slice none 0 0, by rw [h]; rfl, by rw [h]; exact Own.nil _ _ _, Fresh.nil _ _ _, x⟩

set_option maxRecDepth 100000 in
set_option maxHeartbeats 1000000 in
theorem Decode_any (s : Value) (l : List UInt8) (w : World) (hs : RdB w s l) (hlen : l.length < 1000000000000) :
    Calls Tryz.prog 70 #[s] w (DecEnds l w) := by
  have hg := Get32_any s l w hs hlen
  obtain ⟨a, c, rfl, hn, hc⟩ := Rd.shape hs
  simp only [bytesV_length] at hn hg ⊢ hs
  by_cases h4 : 4 ≤ l.length
  · rw [if_pos h4] at hg
    have Hg := Lib.hid hg
    clear hg
    have hnl := beV_lt (l.take 4) 4 (by simp; omega)
    by_cases h8 : l.length < 8
    · have hd : dec l = ([], 0, 2) := by unfold dec; rw [if_pos h8]
      have Hd := Lib.hid hd
      clear hd
      go_enter Tryz.func70, Tryz.ntmps70
      go_wp2_with (go_at_call 97; refine Hg.out.mono ?_; rintro e w1 ⟨rfl, rfl⟩)
      go_ret3
      exact decErr Hd.out (Ext.refl _ _)
    · have hs4 : RdB w (.slice (subA a 4 c) (l.length - 4) (c - 4)) (l.drop 4) := hs.drop 4 h4 hn
      have hg2 := Get32_any _ (l.drop 4) w hs4 (by simp; omega)
      rw [if_pos (by simp; omega)] at hg2
      have Hg2 := Lib.hid hg2
      have hsl4 := fun wx => run_sub_l (P := Tryz.prog) wx 35 5 unBytes szByte a l.length c .i64 4 (by omega) (by omega)
      obtain ⟨n, hn'⟩ : ∃ n, beV (l.take 4) = n := ⟨_, rfl⟩
      obtain ⟨sum, hsum⟩ : ∃ n, beV ((l.drop 4).take 4) = n := ⟨_, rfl⟩
      rw [hn'] at hnl Hg
      rw [hsum] at Hg2
      have hnl' : n < 4294967296 := by simpa using hnl
      have Hn := Lib.hid hn'
      have Hsum := Lib.hid hsum
      clear hg2 hn' hsum hnl
      by_cases hbig : 1048576 < n
      · have Hd : Hid (dec l = ([], 0, 5)) := Lib.hid (by unfold dec; rw [if_neg h8, Hn.out, if_pos hbig])
        go_enter Tryz.func70, Tryz.ntmps70
        go_wp2_with fail
        refine Hg.out.mono ?_; rintro e w1 ⟨rfl, rfl⟩
        go_wp2_with fail
        refine Hg2.out.mono ?_; rintro e w1 ⟨rfl, rfl⟩
        go_wp2_with fail
        go_ret3
        exact decErr Hd.out (Ext.refl _ _)
      · by_cases hsh : l.length < 8 + n
        · have Hd : Hid (dec l = ([], 0, 2)) := Lib.hid (by unfold dec; rw [if_neg h8, Hn.out, if_neg hbig, if_pos hsh])
          go_enter Tryz.func70, Tryz.ntmps70
          go_wp2_with fail
          refine Hg.out.mono ?_; rintro e w1 ⟨rfl, rfl⟩
          go_wp2_with fail
          refine Hg2.out.mono ?_; rintro e w1 ⟨rfl, rfl⟩
          go_wp2_with fail
          go_ret3
          exact decErr Hd.out (Ext.refl _ _)
        · have hsl8 : ∀ wx, (Instr.slice 35 (.slice a l.length c) (some (.int .i64 8)) (some (.int .i64 (8 + (n : Int)))) none).run Tryz.prog wx = .ok (.slice (subA a 8 c) n (c - 8)) wx := fun wx => by
            rw [run_sub_lh (P := Tryz.prog) wx 35 5 unBytes szByte a l.length c .i64 .i64 8 (8 + (n : Int)) (by omega) (by omega) (by omega)]
            have e1 : (8 + (n : Int)).toNat - (8 : Int).toNat = n := by omega
            rw [e1]; rfl
          have hs8 : RdB w (.slice (subA a 8 c) n (c - 8)) ((l.drop 8).take n) := RdB.sub hs 8 n c (by omega) (by omega) (Nat.le_refl _)
          have hs0 : RdB w (.slice a 4 c) (l.take 4) := RdB.sub0 hs 4 c h4 (by omega) (Nat.le_refl _)
          have hl4 : (l.take 4).length = 4 := by simp; omega
          have hl8 : ((l.drop 8).take n).length = n := by simp; omega
          obtain ⟨pre, hpre⟩ : ∃ p, l.take 4 = p := ⟨_, rfl⟩
          obtain ⟨pay, hpay⟩ : ∃ p, (l.drop 8).take n = p := ⟨_, rfl⟩
          rw [hpre] at hl4 hs0
          rw [hpay] at hl8 hs8
          have Hpre := Lib.hid hpre
          have Hpay := Lib.hid hpay
          clear hpre hpay
          have hcl := crc_lt (pre ++ pay)
          obtain ⟨q, hq⟩ : ∃ q, crc (pre ++ pay) = q := ⟨_, rfl⟩
          have Hq := Lib.hid hq
          rw [hq] at hcl
          clear hq
          have Hl4 := Lib.hid hl4
          have Hl8 := Lib.hid hl8
          clear hl4 hl8
          by_cases heq : q = sum
          · have Hd : Hid (dec l = (pay, 8 + n, 0)) := Lib.hid (by unfold dec; rw [if_neg h8, Hn.out, if_neg hbig, if_neg hsh, Hpre.out, Hpay.out, Hq.out, Hsum.out, if_pos heq])
            subst heq
            go_enter Tryz.func70, Tryz.ntmps70
            go_wp2_with fail
            refine Hg.out.mono ?_; rintro e w1 ⟨rfl, rfl⟩
            go_wp2_with fail
            refine Hg2.out.mono ?_; rintro e w1 ⟨rfl, rfl⟩
            go_wp2_with fail
            refine (bytesClone_any _ _ _ hs0 (by rw [Hl4.out]; omega)).mono ?_; rintro e w1 ⟨v1, rfl, o1, f1, x1⟩
            have s1 := Lib.hid (Rd.src (P := Tryz.prog) unBytes (hs8.no x1) (bytesV_one pay) (by decide))
            go_wp2_with (at_builtin; refine wpList_app _ rfl (.tmp 45) (.tmp 46) 35 35 rfl 5 1 1 unBytes elByte o1 s1.out rfl rfl (by simp only [bytesV_length]; rw [Hl4.out, Hl8.out]; omega) (by decide) ?_; intro v2 w2 o2 x2 h2)
            have r2 : RdB w2 v2 (pre ++ pay) := by unfold RdB; rw [bytesV_append]; exact o2.rd
            have x02 := f1.ext x1 x2
            refine (Sum_any _ _ _ r2 (by rw [List.length_append, Hl4.out, Hl8.out]; omega)).mono ?_
            rintro e w3 ⟨rfl, x3⟩
            rw [Hq.out]
            have x03 := x02.trans x3
            go_wp2_with fail
            refine (bytesClone_any _ _ _ (hs8.no x03) (by rw [Hl8.out]; omega)).mono ?_; rintro e w4 ⟨v4, rfl, o4, f4, x4⟩
            go_wp2_with fail
            go_ret3
            exact ⟨v4, by rw [Hd.out]; rfl, by rw [Hd.out]; exact o4, f4.mono x03.size, x03.trans x4⟩
          · have Hd : Hid (dec l = ([], 0, 4)) := Lib.hid (by unfold dec; rw [if_neg h8, Hn.out, if_neg hbig, if_neg hsh, Hpre.out, Hpay.out, Hq.out, Hsum.out, if_neg heq])
            have hne : ((q : Int) != (sum : Int)) = true := by rw [bne_iff_ne]; omega
            go_enter Tryz.func70, Tryz.ntmps70
            go_wp2_with fail
            refine Hg.out.mono ?_; rintro e w1 ⟨rfl, rfl⟩
            go_wp2_with fail
            refine Hg2.out.mono ?_; rintro e w1 ⟨rfl, rfl⟩
            go_wp2_with fail
            refine (bytesClone_any _ _ _ hs0 (by rw [Hl4.out]; omega)).mono ?_; rintro e w1 ⟨v1, rfl, o1, f1, x1⟩
            have s1 := Lib.hid (Rd.src (P := Tryz.prog) unBytes (hs8.no x1) (bytesV_one pay) (by decide))
            go_wp2_with (at_builtin; refine wpList_app _ rfl (.tmp 45) (.tmp 46) 35 35 rfl 5 1 1 unBytes elByte o1 s1.out rfl rfl (by simp only [bytesV_length]; rw [Hl4.out, Hl8.out]; omega) (by decide) ?_; intro v2 w2 o2 x2 h2)
            have r2 : RdB w2 v2 (pre ++ pay) := by unfold RdB; rw [bytesV_append]; exact o2.rd
            have x02 := f1.ext x1 x2
            refine (Sum_any _ _ _ r2 (by rw [List.length_append, Hl4.out, Hl8.out]; omega)).mono ?_
            rintro e w3 ⟨rfl, x3⟩
            rw [Hq.out]
            go_wp2_with fail
            go_ret3
            exact decErr Hd.out (x02.trans x3)
  · rw [if_neg h4] at hg
    have Hg := Lib.hid hg
    have Hd : Hid (dec l = ([], 0, 2)) := Lib.hid (by unfold dec; rw [if_pos (by omega)])
    clear hg
    go_enter Tryz.func70, Tryz.ntmps70
    go_wp2_with (go_at_call 97; refine Hg.out.mono ?_; rintro e w1 ⟨rfl, rfl⟩)
    go_ret3
    exact decErr Hd.out (Ext.refl _ _)
end Go.Proofs.YtgglbholbkdgfaaGreatDoor
