/-
  LiveAhead, LiveClash and LiveAcross: what is live, which places clash, and what is live behind calls, is told as the document says.
  Conditions: none.
-/
import Derived.Test.YtkfnnmdghibjbaaLivRCl
import Derived.Test.YtkfnnmdghibjbaaLivRAc
namespace Go.Proofs.Ytkfnnmdghibjbaa
open Go.RowKit Go.Bk Go.Bk.Liv
set_option linter.unusedVariables false
set_option linter.unusedSimpArgs false
/-- two told lists are one -/
theorem told_two {e : EnvD} {r : RowD} {w wa wb : World} {ba bb n : Nat} {a b : Value} {Q : Nat → Int → Prop} (hc : CheckP e r) (hQ : ∀ i x, Q i x → 0 ≤ x ∧ x < r.places) (hn : n ≤ 4096) (ha : Told w ba a n Q) (hb : Told w bb b n Q) :
    ∃ P, LL w a P ∧ LL w b P ∧ P.length ≤ 100000 ∧ ∀ p ∈ P, p.length ≤ 100000 := by
  obtain ⟨P, h1, h2, h3⟩ := ha.lists
  refine ⟨P, h1, hb.ll h2 h3, by omega, fun p hp => ?_⟩
  obtain ⟨i, hi⟩ := List.mem_iff_getElem?.1 hp
  have := (h3 i p hi).small hc (hQ i)
  omega
theorem ll_nil (w : World) : LL w (.slice none 0 0) [] := ⟨none, 0, [], rfl, Src.nil _ _, fun i u p h => by simp at h⟩
set_option maxRecDepth 100000 in
set_option maxHeartbeats 8000000 in
theorem LiveAhead_walk (e : EnvD) (r : RowD) (ve vr : Value) (w : World) (he : EnvV w ve e) (hr : RowV w vr r) : Calls Try.prog 3 #[ve, vr] w (LawPost w) := by
  have HE := Lib.hid he
  have HR := Lib.hid hr
  obtain ⟨va, vb, vd, rfl, h1, h2, h3⟩ := he
  obtain ⟨vp, vq, vr, vs, rfl, h4, h5, h6, h7⟩ := hr
  clear h1 h2 h3 h4 h5 h6 h7
  have HB := Lib.hid (al2 w (.cells #[va, .int .i64 e.imports, vb, vd, .bool e.mem] 26) (.cells #[vp, vq, .int .i64 r.places, vr, vs] 31))
  have KE := Lib.hid (Blk.alloc (Blk.new w 26 #[va, .int .i64 e.imports, vb, vd, .bool e.mem]) (.cells #[vp, vq, .int .i64 r.places, vr, vs] 31))
  have KR := Lib.hid (Blk.newAt (w.alloc (.cells #[va, .int .i64 e.imports, vb, vd, .bool e.mem] 26)) (N := w.heap.size + 1) 31 #[vp, vq, .int .i64 r.places, vr, vs] (by simp))
  go_enter Try.func3, Try.ntmps3
  by_cases hc : CheckP e r
  · have HC := Lib.hid hc
    clear hc
    go_wp2_with fail
    (with_reducible refine (Ahead_any e r _ _ _ (HE.out.below HB.out (Nat.le_refl _)) (HR.out.below HB.out (Nat.le_refl _))).mono ?_)
    rintro en w1 (⟨hnc, _, _⟩ | ⟨_, v0, rfl, hT, hb⟩)
    · exact absurd HC.out hnc
    have T0 := Lib.hid hT
    clear hT
    have HB := Lib.hid (HB.out.trans (hb.mono HB.out.size))
    have KE := Lib.hid (KE.out.below hb KE.out.lt)
    have KR := Lib.hid (KR.out.below hb KR.out.lt)
    clear hb
    obtain ⟨r0, r1, r2, r3, r4⟩ := blk5 KR.out
    obtain ⟨d0, d1, d2, d3, d4⟩ := blk5 KE.out
    have y0 := KE.out.lt
    have y1 := KR.out.lt
    go_wp2_with fail
    (with_reducible refine (rAhead_any e r _ _ _ (HE.out.below HB.out (Nat.le_refl _)) (HR.out.below HB.out (Nat.le_refl _))).mono ?_)
    rintro en w2 (⟨hnc, _, _⟩ | ⟨_, v1, rfl, hT, hb⟩)
    · exact absurd HC.out hnc
    clear r0 r1 r2 r3 r4 d0 d1 d2 d3 d4 y0 y1
    have T0 := Lib.hid (T0.out.below hb)
    have T1 := Lib.hid hT
    clear hT
    have HB := Lib.hid (HB.out.trans (hb.mono HB.out.size))
    have KE := Lib.hid (KE.out.below hb KE.out.lt)
    have KR := Lib.hid (KR.out.below hb KR.out.lt)
    clear hb
    obtain ⟨r0, r1, r2, r3, r4⟩ := blk5 KR.out
    obtain ⟨d0, d1, d2, d3, d4⟩ := blk5 KE.out
    have y0 := KE.out.lt
    have y1 := KR.out.lt
    go_wp2_with fail
    (with_reducible refine (Behind_any e r _ _ _ (HE.out.below HB.out (Nat.le_refl _)) (HR.out.below HB.out (Nat.le_refl _))).mono ?_)
    rintro en w3 (⟨hnc, _, _⟩ | ⟨_, v2, rfl, hT, hb⟩)
    · exact absurd HC.out hnc
    clear r0 r1 r2 r3 r4 d0 d1 d2 d3 d4 y0 y1
    have T0 := Lib.hid (T0.out.below hb)
    have T1 := Lib.hid (T1.out.below hb)
    have T2 := Lib.hid hT
    clear hT
    have HB := Lib.hid (HB.out.trans (hb.mono HB.out.size))
    have KE := Lib.hid (KE.out.below hb KE.out.lt)
    have KR := Lib.hid (KR.out.below hb KR.out.lt)
    clear hb
    obtain ⟨r0, r1, r2, r3, r4⟩ := blk5 KR.out
    obtain ⟨d0, d1, d2, d3, d4⟩ := blk5 KE.out
    have y0 := KE.out.lt
    have y1 := KR.out.lt
    go_wp2_with fail
    (with_reducible refine (rBehind_any e r _ _ _ (HE.out.below HB.out (Nat.le_refl _)) (HR.out.below HB.out (Nat.le_refl _))).mono ?_)
    rintro en w4 (⟨hnc, _, _⟩ | ⟨_, v3, rfl, hT, hb⟩)
    · exact absurd HC.out hnc
    clear r0 r1 r2 r3 r4 d0 d1 d2 d3 d4 y0 y1
    have T0 := Lib.hid (T0.out.below hb)
    have T1 := Lib.hid (T1.out.below hb)
    have T2 := Lib.hid (T2.out.below hb)
    have T3 := Lib.hid hT
    clear hT
    have HB := Lib.hid (HB.out.trans (hb.mono HB.out.size))
    have KE := Lib.hid (KE.out.below hb KE.out.lt)
    have KR := Lib.hid (KR.out.below hb KR.out.lt)
    clear hb
    obtain ⟨r0, r1, r2, r3, r4⟩ := blk5 KR.out
    obtain ⟨d0, d1, d2, d3, d4⟩ := blk5 KE.out
    have y0 := KE.out.lt
    have y1 := KR.out.lt
    clear r0 r1 r2 r3 r4 d0 d1 d2 d3 d4 y0 y1 KE KR
    obtain ⟨P0, hA, hB, hl, hp⟩ := told_two (wa := w) (wb := w) HC.out (fun i x (h : Live r i x) => h.range HC.out) HC.out.n2 T0.out T1.out
    have LA0 := Lib.hid hA
    have LB0 := Lib.hid hB
    have LL0 := Lib.hid hl
    have LP0 := Lib.hid hp
    clear hA hB hl hp
    obtain ⟨P2, hA, hB, hl, hp⟩ := told_two (wa := w) (wb := w) HC.out (fun i x (h : LiveB r i x) => h.range HC.out) HC.out.n2 T2.out T3.out
    have LA2 := Lib.hid hA
    have LB2 := Lib.hid hB
    have LL2 := Lib.hid hl
    have LP2 := Lib.hid hp
    clear hA hB hl hp
    go_wp2_with fail
    (with_reducible refine (Lists_eq _ _ P0 _ LA0.out LB0.out LL0.out LP0.out).mono ?_)
    rintro en wd0 ⟨rfl, m0, rfl⟩
    go_wp2_with fail
    (with_reducible refine (Lists_eq _ _ P2 _ (LA2.out.drewN _) (LB2.out.drewN _) LL2.out LP2.out).mono ?_)
    rintro en wd2 ⟨rfl, m2, rfl⟩
    go_wp2_with fail
    refine (alive_any _).mono ?_
    rintro en w9 ⟨rfl, hb⟩
    have HB9 := Lib.hid ((below_drewN HB.out _).trans (hb.mono (below_drewN HB.out _).size))
    clear hb
    go_wp2
    go_ret
    exact ⟨rfl, HB9.out⟩
  · have HC := Lib.hid hc
    clear hc
    go_wp2_with fail
    (with_reducible refine (Ahead_any e r _ _ _ (HE.out.below HB.out (Nat.le_refl _)) (HR.out.below HB.out (Nat.le_refl _))).mono ?_)
    rintro en w1 (⟨_, rfl, hb⟩ | ⟨hc, _⟩)
    rotate_left
    · exact absurd hc HC.out
    have HB := Lib.hid (HB.out.trans (hb.mono HB.out.size))
    have KE := Lib.hid (KE.out.below hb KE.out.lt)
    have KR := Lib.hid (KR.out.below hb KR.out.lt)
    clear hb
    obtain ⟨r0, r1, r2, r3, r4⟩ := blk5 KR.out
    obtain ⟨d0, d1, d2, d3, d4⟩ := blk5 KE.out
    have y0 := KE.out.lt
    have y1 := KR.out.lt
    go_wp2_with fail
    (with_reducible refine (rAhead_any e r _ _ _ (HE.out.below HB.out (Nat.le_refl _)) (HR.out.below HB.out (Nat.le_refl _))).mono ?_)
    rintro en w2 (⟨_, rfl, hb⟩ | ⟨hc, _⟩)
    rotate_left
    · exact absurd hc HC.out
    clear r0 r1 r2 r3 r4 d0 d1 d2 d3 d4 y0 y1
    have HB := Lib.hid (HB.out.trans (hb.mono HB.out.size))
    have KE := Lib.hid (KE.out.below hb KE.out.lt)
    have KR := Lib.hid (KR.out.below hb KR.out.lt)
    clear hb
    obtain ⟨r0, r1, r2, r3, r4⟩ := blk5 KR.out
    obtain ⟨d0, d1, d2, d3, d4⟩ := blk5 KE.out
    have y0 := KE.out.lt
    have y1 := KR.out.lt
    go_wp2_with fail
    (with_reducible refine (Behind_any e r _ _ _ (HE.out.below HB.out (Nat.le_refl _)) (HR.out.below HB.out (Nat.le_refl _))).mono ?_)
    rintro en w3 (⟨_, rfl, hb⟩ | ⟨hc, _⟩)
    rotate_left
    · exact absurd hc HC.out
    clear r0 r1 r2 r3 r4 d0 d1 d2 d3 d4 y0 y1
    have HB := Lib.hid (HB.out.trans (hb.mono HB.out.size))
    have KE := Lib.hid (KE.out.below hb KE.out.lt)
    have KR := Lib.hid (KR.out.below hb KR.out.lt)
    clear hb
    obtain ⟨r0, r1, r2, r3, r4⟩ := blk5 KR.out
    obtain ⟨d0, d1, d2, d3, d4⟩ := blk5 KE.out
    have y0 := KE.out.lt
    have y1 := KR.out.lt
    go_wp2_with fail
    (with_reducible refine (rBehind_any e r _ _ _ (HE.out.below HB.out (Nat.le_refl _)) (HR.out.below HB.out (Nat.le_refl _))).mono ?_)
    rintro en w4 (⟨_, rfl, hb⟩ | ⟨hc, _⟩)
    rotate_left
    · exact absurd hc HC.out
    clear r0 r1 r2 r3 r4 d0 d1 d2 d3 d4 y0 y1
    have HB := Lib.hid (HB.out.trans (hb.mono HB.out.size))
    have KE := Lib.hid (KE.out.below hb KE.out.lt)
    have KR := Lib.hid (KR.out.below hb KR.out.lt)
    clear hb
    obtain ⟨r0, r1, r2, r3, r4⟩ := blk5 KR.out
    obtain ⟨d0, d1, d2, d3, d4⟩ := blk5 KE.out
    have y0 := KE.out.lt
    have y1 := KR.out.lt
    clear r0 r1 r2 r3 r4 d0 d1 d2 d3 d4 y0 y1 KE KR
    go_wp2_with fail
    (with_reducible refine (Lists_eq _ _ [] _ (ll_nil _) (ll_nil _) (by simp) (by simp)).mono ?_)
    rintro en wd0 ⟨rfl, m0, rfl⟩
    go_wp2_with fail
    (with_reducible refine (Lists_eq _ _ [] _ (ll_nil _) (ll_nil _) (by simp) (by simp)).mono ?_)
    rintro en wd2 ⟨rfl, m2, rfl⟩
    go_wp2_with fail
    refine (alive_any _).mono ?_
    rintro en w9 ⟨rfl, hb⟩
    have HB9 := Lib.hid ((below_drewN HB.out _).trans (hb.mono (below_drewN HB.out _).size))
    clear hb
    go_wp2
    go_ret
    exact ⟨rfl, HB9.out⟩
set_option maxRecDepth 100000 in
set_option maxHeartbeats 8000000 in
theorem LiveClash_walk (e : EnvD) (r : RowD) (ve vr : Value) (w : World) (he : EnvV w ve e) (hr : RowV w vr r) : Calls Try.prog 4 #[ve, vr] w (LawPost w) := by
  have HE := Lib.hid he
  have HR := Lib.hid hr
  obtain ⟨va, vb, vd, rfl, h1, h2, h3⟩ := he
  obtain ⟨vp, vq, vr, vs, rfl, h4, h5, h6, h7⟩ := hr
  clear h1 h2 h3 h4 h5 h6 h7
  have HB := Lib.hid (al2 w (.cells #[va, .int .i64 e.imports, vb, vd, .bool e.mem] 26) (.cells #[vp, vq, .int .i64 r.places, vr, vs] 31))
  have KE := Lib.hid (Blk.alloc (Blk.new w 26 #[va, .int .i64 e.imports, vb, vd, .bool e.mem]) (.cells #[vp, vq, .int .i64 r.places, vr, vs] 31))
  have KR := Lib.hid (Blk.newAt (w.alloc (.cells #[va, .int .i64 e.imports, vb, vd, .bool e.mem] 26)) (N := w.heap.size + 1) 31 #[vp, vq, .int .i64 r.places, vr, vs] (by simp))
  go_enter Try.func4, Try.ntmps4
  by_cases hc : CheckP e r
  · have HC := Lib.hid hc
    clear hc
    go_wp2_with fail
    (with_reducible refine (Clash_any e r _ _ _ (HE.out.below HB.out (Nat.le_refl _)) (HR.out.below HB.out (Nat.le_refl _))).mono ?_)
    rintro en w1 (⟨hnc, _, _⟩ | ⟨_, v0, rfl, hT, hb⟩)
    · exact absurd HC.out hnc
    have T0 := Lib.hid hT
    clear hT
    have HB := Lib.hid (HB.out.trans (hb.mono HB.out.size))
    have KE := Lib.hid (KE.out.below hb KE.out.lt)
    have KR := Lib.hid (KR.out.below hb KR.out.lt)
    clear hb
    obtain ⟨r0, r1, r2, r3, r4⟩ := blk5 KR.out
    obtain ⟨d0, d1, d2, d3, d4⟩ := blk5 KE.out
    have y0 := KE.out.lt
    have y1 := KR.out.lt
    go_wp2_with fail
    (with_reducible refine (rClash_any e r _ _ _ (HE.out.below HB.out (Nat.le_refl _)) (HR.out.below HB.out (Nat.le_refl _))).mono ?_)
    rintro en w2 (⟨hnc, _, _⟩ | ⟨_, v1, rfl, hT, hb⟩)
    · exact absurd HC.out hnc
    clear r0 r1 r2 r3 r4 d0 d1 d2 d3 d4 y0 y1
    have T0 := Lib.hid (T0.out.below hb)
    have T1 := Lib.hid hT
    clear hT
    have HB := Lib.hid (HB.out.trans (hb.mono HB.out.size))
    have KE := Lib.hid (KE.out.below hb KE.out.lt)
    have KR := Lib.hid (KR.out.below hb KR.out.lt)
    clear hb
    obtain ⟨r0, r1, r2, r3, r4⟩ := blk5 KR.out
    obtain ⟨d0, d1, d2, d3, d4⟩ := blk5 KE.out
    have y0 := KE.out.lt
    have y1 := KR.out.lt
    clear r0 r1 r2 r3 r4 d0 d1 d2 d3 d4 y0 y1 KE KR
    obtain ⟨P0, hA, hB, hl, hp⟩ := told_two (wa := w) (wb := w) HC.out (fun i x (h : Clashes r (i : Int) x) => h.range HC.out) (by have := HC.out.p2; omega) T0.out T1.out
    have LA0 := Lib.hid hA
    have LB0 := Lib.hid hB
    have LL0 := Lib.hid hl
    have LP0 := Lib.hid hp
    clear hA hB hl hp
    go_wp2_with fail
    (with_reducible refine (Lists_eq _ _ P0 _ LA0.out LB0.out LL0.out LP0.out).mono ?_)
    rintro en wd0 ⟨rfl, m0, rfl⟩
    go_wp2_with fail
    refine (alive_any _).mono ?_
    rintro en w9 ⟨rfl, hb⟩
    have HB9 := Lib.hid ((below_drewN HB.out _).trans (hb.mono (below_drewN HB.out _).size))
    clear hb
    go_wp2
    go_ret
    exact ⟨rfl, HB9.out⟩
  · have HC := Lib.hid hc
    clear hc
    go_wp2_with fail
    (with_reducible refine (Clash_any e r _ _ _ (HE.out.below HB.out (Nat.le_refl _)) (HR.out.below HB.out (Nat.le_refl _))).mono ?_)
    rintro en w1 (⟨_, rfl, hb⟩ | ⟨hc, _⟩)
    rotate_left
    · exact absurd hc HC.out
    have HB := Lib.hid (HB.out.trans (hb.mono HB.out.size))
    have KE := Lib.hid (KE.out.below hb KE.out.lt)
    have KR := Lib.hid (KR.out.below hb KR.out.lt)
    clear hb
    obtain ⟨r0, r1, r2, r3, r4⟩ := blk5 KR.out
    obtain ⟨d0, d1, d2, d3, d4⟩ := blk5 KE.out
    have y0 := KE.out.lt
    have y1 := KR.out.lt
    go_wp2_with fail
    (with_reducible refine (rClash_any e r _ _ _ (HE.out.below HB.out (Nat.le_refl _)) (HR.out.below HB.out (Nat.le_refl _))).mono ?_)
    rintro en w2 (⟨_, rfl, hb⟩ | ⟨hc, _⟩)
    rotate_left
    · exact absurd hc HC.out
    clear r0 r1 r2 r3 r4 d0 d1 d2 d3 d4 y0 y1
    have HB := Lib.hid (HB.out.trans (hb.mono HB.out.size))
    have KE := Lib.hid (KE.out.below hb KE.out.lt)
    have KR := Lib.hid (KR.out.below hb KR.out.lt)
    clear hb
    obtain ⟨r0, r1, r2, r3, r4⟩ := blk5 KR.out
    obtain ⟨d0, d1, d2, d3, d4⟩ := blk5 KE.out
    have y0 := KE.out.lt
    have y1 := KR.out.lt
    clear r0 r1 r2 r3 r4 d0 d1 d2 d3 d4 y0 y1 KE KR
    go_wp2_with fail
    (with_reducible refine (Lists_eq _ _ [] _ (ll_nil _) (ll_nil _) (by simp) (by simp)).mono ?_)
    rintro en wd0 ⟨rfl, m0, rfl⟩
    go_wp2_with fail
    refine (alive_any _).mono ?_
    rintro en w9 ⟨rfl, hb⟩
    have HB9 := Lib.hid ((below_drewN HB.out _).trans (hb.mono (below_drewN HB.out _).size))
    clear hb
    go_wp2
    go_ret
    exact ⟨rfl, HB9.out⟩
set_option maxRecDepth 100000 in
set_option maxHeartbeats 8000000 in
theorem LiveAcross_walk (e : EnvD) (r : RowD) (ve vr : Value) (w : World) (he : EnvV w ve e) (hr : RowV w vr r) : Calls Try.prog 8 #[ve, vr] w (LawPost w) := by
  have HE := Lib.hid he
  have HR := Lib.hid hr
  obtain ⟨va, vb, vd, rfl, h1, h2, h3⟩ := he
  obtain ⟨vp, vq, vr, vs, rfl, h4, h5, h6, h7⟩ := hr
  clear h1 h2 h3 h4 h5 h6 h7
  have HB := Lib.hid (al2 w (.cells #[va, .int .i64 e.imports, vb, vd, .bool e.mem] 26) (.cells #[vp, vq, .int .i64 r.places, vr, vs] 31))
  have KE := Lib.hid (Blk.alloc (Blk.new w 26 #[va, .int .i64 e.imports, vb, vd, .bool e.mem]) (.cells #[vp, vq, .int .i64 r.places, vr, vs] 31))
  have KR := Lib.hid (Blk.newAt (w.alloc (.cells #[va, .int .i64 e.imports, vb, vd, .bool e.mem] 26)) (N := w.heap.size + 1) 31 #[vp, vq, .int .i64 r.places, vr, vs] (by simp))
  go_enter Try.func8, Try.ntmps8
  by_cases hc : CheckP e r
  · have HC := Lib.hid hc
    clear hc
    go_wp2_with fail
    (with_reducible refine (Across_any e r _ _ _ (HE.out.below HB.out (Nat.le_refl _)) (HR.out.below HB.out (Nat.le_refl _))).mono ?_)
    rintro en w1 (⟨hnc, _, _⟩ | ⟨_, P0, A0, c0, rfl, ho, hset, hb⟩)
    · exact absurd HC.out hnc
    have S0 := Lib.hid hset
    have I0 := Lib.hid (IR.own ho)
    clear ho hset
    have HB := Lib.hid (HB.out.trans (hb.mono HB.out.size))
    have KE := Lib.hid (KE.out.below hb KE.out.lt)
    have KR := Lib.hid (KR.out.below hb KR.out.lt)
    clear hb
    obtain ⟨r0, r1, r2, r3, r4⟩ := blk5 KR.out
    obtain ⟨d0, d1, d2, d3, d4⟩ := blk5 KE.out
    have y0 := KE.out.lt
    have y1 := KR.out.lt
    go_wp2_with fail
    (with_reducible refine (rAcross_any e r _ _ _ (HE.out.below HB.out (Nat.le_refl _)) (HR.out.below HB.out (Nat.le_refl _))).mono ?_)
    rintro en w2 (⟨hnc, _, _⟩ | ⟨_, v1, P1, rfl, ho, hlen, hset, hb⟩)
    · exact absurd HC.out hnc
    clear r0 r1 r2 r3 r4 d0 d1 d2 d3 d4 y0 y1
    have I0 := Lib.hid (I0.out.below hb (Nat.le_refl _))
    have S1 := Lib.hid hset
    have N1 := Lib.hid hlen
    have I1 := Lib.hid (show IR w2 v1 P1 from by obtain ⟨A, c, e, _⟩ := own_shape ho; subst e; exact IR.own ho)
    clear ho hset hlen
    have HB := Lib.hid (HB.out.trans (hb.mono HB.out.size))
    have KE := Lib.hid (KE.out.below hb KE.out.lt)
    have KR := Lib.hid (KR.out.below hb KR.out.lt)
    clear hb
    obtain ⟨r0, r1, r2, r3, r4⟩ := blk5 KR.out
    obtain ⟨d0, d1, d2, d3, d4⟩ := blk5 KE.out
    have y0 := KE.out.lt
    have y1 := KR.out.lt
    clear r0 r1 r2 r3 r4 d0 d1 d2 d3 d4 y0 y1 KE KR
    have hP := IsSet.one S0.out S1.out
    subst hP
    go_wp2_with fail
    (with_reducible refine (wints_eq _ _ P0 _ I0.out I1.out (by have := N1.out; omega)).mono ?_)
    rintro en wd0 ⟨rfl, m0, rfl⟩
    go_wp2_with fail
    refine (alive_any _).mono ?_
    rintro en w9 ⟨rfl, hb⟩
    have HB9 := Lib.hid ((below_drewN HB.out _).trans (hb.mono (below_drewN HB.out _).size))
    clear hb
    go_wp2
    go_ret
    exact ⟨rfl, HB9.out⟩
  · have HC := Lib.hid hc
    clear hc
    go_wp2_with fail
    (with_reducible refine (Across_any e r _ _ _ (HE.out.below HB.out (Nat.le_refl _)) (HR.out.below HB.out (Nat.le_refl _))).mono ?_)
    rintro en w1 (⟨_, rfl, hb⟩ | ⟨hc, _⟩)
    rotate_left
    · exact absurd hc HC.out
    have HB := Lib.hid (HB.out.trans (hb.mono HB.out.size))
    have KE := Lib.hid (KE.out.below hb KE.out.lt)
    have KR := Lib.hid (KR.out.below hb KR.out.lt)
    clear hb
    obtain ⟨r0, r1, r2, r3, r4⟩ := blk5 KR.out
    obtain ⟨d0, d1, d2, d3, d4⟩ := blk5 KE.out
    have y0 := KE.out.lt
    have y1 := KR.out.lt
    go_wp2_with fail
    (with_reducible refine (rAcross_any e r _ _ _ (HE.out.below HB.out (Nat.le_refl _)) (HR.out.below HB.out (Nat.le_refl _))).mono ?_)
    rintro en w2 (⟨_, rfl, hb⟩ | ⟨hc, _⟩)
    rotate_left
    · exact absurd hc HC.out
    clear r0 r1 r2 r3 r4 d0 d1 d2 d3 d4 y0 y1
    have HB := Lib.hid (HB.out.trans (hb.mono HB.out.size))
    have KE := Lib.hid (KE.out.below hb KE.out.lt)
    have KR := Lib.hid (KR.out.below hb KR.out.lt)
    clear hb
    obtain ⟨r0, r1, r2, r3, r4⟩ := blk5 KR.out
    obtain ⟨d0, d1, d2, d3, d4⟩ := blk5 KE.out
    have y0 := KE.out.lt
    have y1 := KR.out.lt
    clear r0 r1 r2 r3 r4 d0 d1 d2 d3 d4 y0 y1 KE KR
    go_wp2_with fail
    (with_reducible refine (wints_eq _ _ [] _ (IR.nil _) (IR.nil _) (by simp)).mono ?_)
    rintro en wd0 ⟨rfl, m0, rfl⟩
    go_wp2_with fail
    refine (alive_any _).mono ?_
    rintro en w9 ⟨rfl, hb⟩
    have HB9 := Lib.hid ((below_drewN HB.out _).trans (hb.mono (below_drewN HB.out _).size))
    clear hb
    go_wp2
    go_ret
    exact ⟨rfl, HB9.out⟩
end Go.Proofs.Ytkfnnmdghibjbaa
