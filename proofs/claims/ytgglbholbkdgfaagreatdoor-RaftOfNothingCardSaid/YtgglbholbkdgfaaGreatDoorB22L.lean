/- Package wal: a log in memory behind an Append. No walk. -/
import Derived.Test.YtgglbholbkdgfaaGreatDoorB21
namespace Go.Proofs.YtgglbholbkdgfaaGreatDoor
open Go.RowKit

theorem SegAt.ext2 {w w' : World} {F F' G : Nat → Prop} {r : RSeg} (h : SegAt w F r) (x : Ext G w w') (h1 : ¬ G r.sg) (h2 : Off G r.ev) (h3 : Off G r.nv) (h4 : ∀ g, F g → ∀ cs fr, w.heap[g]? = some (.cells cs 5 fr) → ¬ G g) (hF : ∀ b, F b → F' b) : SegAt w' F' r :=
  ⟨x.blk h.blk h1, hF _ h.self, h.ents.ext x h2, fun g hg => hF g (h.entsF g hg), h.ends.ext x h3, fun g hg => hF g (h.endsF g hg), (h.rows.ext x h4).mono hF⟩

theorem Chain.snoc : ∀ {n : Nat} {ps : List PSeg} {p : PSeg} {m : Nat} {l : List UInt8}, Chain n (ps ++ [p]) m → Chain n (ps ++ [⟨p.first, p.es ++ [l]⟩]) (m + 1)
  | n, [], p, m, l, h => by
    obtain ⟨h1, h2, h3⟩ := h
    refine ⟨h1, by simp, ?_⟩
    show n + (p.es ++ [l]).length = m + 1
    have h3 : n + p.es.length = m := h3
    simp only [List.length_append, List.length_singleton]
    omega
  | n, q :: ps, p, m, l, h => by
    obtain ⟨h1, h2, h3⟩ := h
    exact ⟨h1, h2, Chain.snoc h3⟩
theorem Chain.fresh : ∀ {n : Nat} {ps : List PSeg} {m : Nat} {l : List UInt8}, Chain n ps m → Chain n (ps ++ [⟨m, [l]⟩]) (m + 1)
  | n, [], m, l, h => by
    have h : n = m := h
    subst h
    exact ⟨rfl, by simp, rfl⟩
  | n, q :: ps, m, l, h => by
    obtain ⟨h1, h2, h3⟩ := h
    exact ⟨h1, h2, Chain.fresh h3⟩
theorem blk_cells_inj {w : World} {b : Nat} {cs cs' : Array Value} {t t' : TypeId} {fr fr' : Nat × Nat} (h : w.heap[b]? = some (.cells cs t fr)) (h' : w.heap[b]? = some (.cells cs' t' fr')) : t = t' := by
  rw [h] at h'
  injection h' with h1
  injection h1

theorem LogAt.more {w w' : World} {L d : Nat} {F : Nat → Prop} {pre : ByteArray} {sv : Value} {ini : List RSeg} {r : RSeg} {m : Nat} (h : LogAt w L d F pre sv (ini ++ [r]) m) {v ev' nv' : Value} {l : List UInt8}
    (x : Ext (fun b => r.ev.ownBlock = some b ∨ r.nv.ownBlock = some b ∨ b = r.sg ∨ b = L) w w')
    (hbL : w'.heap[L]? = some (.cells #[.pointer (some ⟨d, 0, none⟩), .string pre, sv, .int .i64 (m + 1 : Nat)] 134 (0, 0)))
    (hbS : w'.heap[r.sg]? = some (.cells #[.int .i64 r.p.first, ev', nv', .bool true] 139 (0, 0)))
    (hev : Own w' 35 1 ev' (r.xs ++ [v])) (hnv : Own w' 3 1 nv' (natsV (PSeg.ends ⟨r.p.first, r.p.es ++ [l]⟩)))
    (hv : RdU w' v l) (hvb : ∀ g, v.ownBlock = some g → w.heap.size ≤ g)
    (hevb : ∀ g, ev'.ownBlock = some g → r.ev.ownBlock = some g ∨ w.heap.size ≤ g) (hnvb : ∀ g, nv'.ownBlock = some g → r.nv.ownBlock = some g ∨ w.heap.size ≤ g)
    (hm : m < 100) (hb : (PSeg.bytes ⟨r.p.first, r.p.es ++ [l]⟩).length ≤ 1073741824) :
    LogAt w' L d (Gr F w w') pre sv (ini ++ [⟨r.sg, ⟨r.p.first, r.p.es ++ [l]⟩, ev', nv', r.xs ++ [v], true⟩]) (m + 1) := by
  have hr := h.each r (by simp)
  have hF : ∀ b, F b → Gr F w w' b := fun b hb => .inl hb
  have hnew : ∀ g, w.heap.size ≤ g → g < w'.heap.size → Gr F w w' g := fun g h1 h2 => .inr ⟨h1, h2⟩
  have hap := h.apart
  rw [List.pairwise_append] at hap
  obtain ⟨ap1, _, ap2⟩ := hap
  have hu : ∀ g, F g → ∀ cs fr, w.heap[g]? = some (.cells cs 5 fr) → ¬ (r.ev.ownBlock = some g ∨ r.nv.ownBlock = some g ∨ g = r.sg ∨ g = L) := by
    intro g _ cs fr hg hG
    rcases hG with hG | hG | rfl | rfl
    · exact hr.ents.ne_blk hg (by decide) g hG rfl
    · exact hr.ends.ne_blk hg (by decide) g hG rfl
    · exact absurd (blk_cells_inj hg hr.blk) (by decide)
    · exact absurd (blk_cells_inj hg h.blk) (by decide)
  refine ⟨hbL, .inl h.self, ?_, fun g hg => .inl (h.segsF g hg), ?_, ?_, ?_, ?_, by omega, ?_, h.preL⟩
  · have := h.segs.ext x (fun g hg hG => by
      rcases hG with hG | hG | hG | hG
      · exact own_apart hr.ents h.segs (by decide) g hg hG
      · exact own_apart hr.ends h.segs (by decide) g hg hG
      · exact h.segs.ne_blk hr.blk (by decide) g hg hG.symm
      · exact h.segs.ne_blk h.blk (by decide) g hg hG.symm)
    simp only [List.map_append, List.map_cons, List.map_nil, RSeg.ptr] at this ⊢
    exact this
  · intro q hq
    rcases List.mem_append.1 hq with hq | hq
    · have hqs := h.each q (by simp [hq])
      obtain ⟨a1, a2, a3⟩ := ap2 q hq r (by simp)
      refine hqs.ext2 x ?_ ?_ ?_ hu hF
      · rintro (hG | hG | hG | hG)
        · exact hr.ents.ne_blk hqs.blk (by decide) _ hG rfl
        · exact hr.ends.ne_blk hqs.blk (by decide) _ hG rfl
        · exact a1 hG
        · exact absurd (blk_cells_inj (hG ▸ hqs.blk) h.blk) (by decide)
      · intro g hg hG
        rcases hG with hG | hG | hG | hG
        · exact a2 g hg hG
        · exact own_apart hr.ends hqs.ents (by decide) g hg hG
        · exact hqs.ents.ne_blk hr.blk (by decide) g hg hG.symm
        · exact hqs.ents.ne_blk h.blk (by decide) g hg hG.symm
      · intro g hg hG
        rcases hG with hG | hG | hG | hG
        · exact own_apart hr.ents hqs.ends (by decide) g hg hG
        · exact a3 g hg hG
        · exact hqs.ends.ne_blk hr.blk (by decide) g hg hG.symm
        · exact hqs.ends.ne_blk h.blk (by decide) g hg hG.symm
    · have : q = ⟨r.sg, ⟨r.p.first, r.p.es ++ [l]⟩, ev', nv', r.xs ++ [v], true⟩ := by simpa using hq
      subst this
      refine ⟨hbS, .inl hr.self, hev, ?_, hnv, ?_, ?_⟩
      · intro g hg
        rcases hevb g hg with h1 | h1
        · exact .inl (hr.entsF g h1)
        · exact hnew g h1 (hev.lt g hg)
      · intro g hg
        rcases hnvb g hg with h1 | h1
        · exact .inl (hr.endsF g h1)
        · exact hnew g h1 (hnv.lt g hg)
      · refine Rows3.append ((hr.rows.ext x hu).mono hF) (.cons hv (fun g hg => hnew g (hvb g hg) ?_) .nil)
        obtain ⟨cs, fr, hb⟩ := hv.2 g hg
        exact lt_of_blk hb
  · rw [List.pairwise_append]
    refine ⟨ap1, by simp, fun a ha b hb => ?_⟩
    have : b = ⟨r.sg, ⟨r.p.first, r.p.es ++ [l]⟩, ev', nv', r.xs ++ [v], true⟩ := by simpa using hb
    subst this
    obtain ⟨a1, a2, a3⟩ := ap2 a ha r (by simp)
    have has := h.each a (by simp [ha])
    refine ⟨a1, fun g hg hg' => ?_, fun g hg hg' => ?_⟩
    · rcases hevb g hg' with h1 | h1
      · exact a2 g hg h1
      · have := has.ents.lt g hg; omega
    · rcases hnvb g hg' with h1 | h1
      · exact a3 g hg h1
      · have := has.ends.lt g hg; omega
  · have := h.chain
    simp only [List.map_append, List.map_cons, List.map_nil] at this ⊢
    exact this.snoc
  · intro b hb
    rcases hb with hb | hb
    · exact Nat.lt_of_lt_of_le (h.lt b hb) x.size
    · exact hb.2
  · intro q hq
    rcases List.mem_append.1 hq with hq | hq
    · exact h.bytes30 q (by simp [hq])
    · have : q = ⟨r.sg, ⟨r.p.first, r.p.es ++ [l]⟩, ev', nv', r.xs ++ [v], true⟩ := by simpa using hq
      subst this
      exact hb

theorem LogAt.added {w w' : World} {L d sg : Nat} {F : Nat → Prop} {pre : ByteArray} {sv : Value} {rs : List RSeg} {m : Nat} (h : LogAt w L d F pre sv rs m) {v ev' nv' sv' : Value} {l : List UInt8}
    (x : Ext (fun b => sv.ownBlock = some b ∨ b = sg ∨ b = L) w w') (hsgF : ¬ F sg) (hsgw : sg < w.heap.size)
    (hbL : w'.heap[L]? = some (.cells #[.pointer (some ⟨d, 0, none⟩), .string pre, sv', .int .i64 (m + 1 : Nat)] 134 (0, 0)))
    (hsv : Own w' 140 1 sv' (rs.map RSeg.ptr ++ [.pointer (some ⟨sg, 0, none⟩)])) (hsvb : ∀ g, sv'.ownBlock = some g → sv.ownBlock = some g ∨ w.heap.size ≤ g)
    (hbS : w'.heap[sg]? = some (.cells #[.int .i64 m, ev', nv', .bool true] 139 (0, 0)))
    (hev : Own w' 35 1 ev' [v]) (hnv : Own w' 3 1 nv' (natsV (PSeg.ends ⟨m, [l]⟩)))
    (hv : RdU w' v l) (hvb : ∀ g, v.ownBlock = some g → w.heap.size ≤ g)
    (hevb : ∀ g, ev'.ownBlock = some g → w.heap.size ≤ g) (hnvb : ∀ g, nv'.ownBlock = some g → w.heap.size ≤ g)
    (hm : m < 100) (hb : (PSeg.bytes ⟨m, [l]⟩).length ≤ 1073741824) :
    LogAt w' L d (fun b => Gr F w w' b ∨ b = sg) pre sv' (rs ++ [⟨sg, ⟨m, [l]⟩, ev', nv', [v], true⟩]) (m + 1) := by
  have hF : ∀ b, F b → Gr F w w' b ∨ b = sg := fun b hb => .inl (.inl hb)
  have hnew : ∀ g, w.heap.size ≤ g → g < w'.heap.size → Gr F w w' g ∨ g = sg := fun g h1 h2 => .inl (.inr ⟨h1, h2⟩)
  have hu : ∀ g, F g → ∀ cs fr, w.heap[g]? = some (.cells cs 5 fr) → ¬ (sv.ownBlock = some g ∨ g = sg ∨ g = L) := by
    intro g hgF cs fr hg hG
    rcases hG with hG | hG | hG
    · exact h.segs.ne_blk hg (by decide) g hG rfl
    · exact hsgF (hG ▸ hgF)
    · exact absurd (blk_cells_inj hg (hG ▸ h.blk)) (by decide)
  refine ⟨hbL, .inl (.inl h.self), ?_, ?_, ?_, ?_, ?_, ?_, by omega, ?_, h.preL⟩
  · simp only [List.map_append, List.map_cons, List.map_nil, RSeg.ptr] at hsv ⊢
    exact hsv
  · intro g hg
    rcases hsvb g hg with h1 | h1
    · exact hF g (h.segsF g h1)
    · exact hnew g h1 (hsv.lt g hg)
  · intro q hq
    rcases List.mem_append.1 hq with hq | hq
    · have hqs := h.each q hq
      refine hqs.ext2 x ?_ ?_ ?_ hu hF
      · rintro (hG | hG | hG)
        · exact h.segs.ne_blk hqs.blk (by decide) _ hG rfl
        · exact hsgF (hG ▸ hqs.self)
        · exact absurd (blk_cells_inj (hG ▸ hqs.blk) h.blk) (by decide)
      · intro g hg hG
        rcases hG with hG | hG | hG
        · exact own_apart h.segs hqs.ents (by decide) g hg hG
        · exact hsgF (hG ▸ hqs.entsF g hg)
        · exact hqs.ents.ne_blk h.blk (by decide) g hg hG.symm
      · intro g hg hG
        rcases hG with hG | hG | hG
        · exact own_apart h.segs hqs.ends (by decide) g hg hG
        · exact hsgF (hG ▸ hqs.endsF g hg)
        · exact hqs.ends.ne_blk h.blk (by decide) g hg hG.symm
    · have : q = ⟨sg, ⟨m, [l]⟩, ev', nv', [v], true⟩ := by simpa using hq
      subst this
      refine ⟨hbS, .inr rfl, hev, fun g hg => hnew g (hevb g hg) (hev.lt g hg), hnv, fun g hg => hnew g (hnvb g hg) (hnv.lt g hg), .cons hv (fun g hg => hnew g (hvb g hg) ?_) .nil⟩
      obtain ⟨cs, fr, hb⟩ := hv.2 g hg
      exact lt_of_blk hb
  · rw [List.pairwise_append]
    refine ⟨h.apart, by simp, fun a ha b hb => ?_⟩
    have : b = ⟨sg, ⟨m, [l]⟩, ev', nv', [v], true⟩ := by simpa using hb
    subst this
    have has := h.each a ha
    refine ⟨fun e => hsgF ((show a.sg = sg from e) ▸ has.self), fun g hg hg' => ?_, fun g hg hg' => ?_⟩
    · have := has.ents.lt g hg; have := hevb g hg'; omega
    · have := has.ends.lt g hg; have := hnvb g hg'; omega
  · have := h.chain
    simp only [List.map_append, List.map_cons, List.map_nil] at this ⊢
    exact this.fresh
  · intro b hb
    have := x.size
    rcases hb with (hb | hb) | hb
    · exact Nat.lt_of_lt_of_le (h.lt b hb) x.size
    · exact hb.2
    · omega
  · intro q hq
    rcases List.mem_append.1 hq with hq | hq
    · exact h.bytes30 q hq
    · have : q = ⟨sg, ⟨m, [l]⟩, ev', nv', [v], true⟩ := by simpa using hq
      subst this
      exact hb
end Go.Proofs.YtgglbholbkdgfaaGreatDoor
