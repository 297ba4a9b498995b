/-
  LiveOwn: rows are not turned, and what was answered may be written over.
  Conditions: none.
-/
import Derived.Test.YtkfnnmdghibjbaaLivLa
namespace Go.Proofs.Ytkfnnmdghibjbaa
open Go.RowKit Go.Bk Go.Bk.Liv
set_option linter.unusedVariables false
set_option linter.unusedSimpArgs false
/-- a list of the call's own, whatever it holds -/
def RowSh (w : World) (base : Nat) (u : Value) : Prop := ∃ B q c, u = .slice B q c ∧ q ≤ 4096 ∧ (0 < q → ∃ g cur, B = some ⟨g, 0, none⟩ ∧ base ≤ g ∧ Blk w g 3 cur ∧ q ≤ cur.size)
theorem RowSh.of {w : World} {base n : Nat} {u : Value} {xs : List Value} (h : w.ownsRow base 3 1 u n xs) (hn : n ≤ 4096) : RowSh w base u := by
  have hx := h.1
  rcases h.2 with ⟨h1, h2⟩ | ⟨g, cap, cur, h1, h2, h3, _, _, _, ht⟩
  · exact ⟨_, _, _, h1, by omega, fun h => by omega⟩
  · refine ⟨_, n, cap, h1, hn, fun _ => ⟨g, cur, rfl, h2, h3, ?_⟩⟩
    have := congrArg List.length ht
    rw [List.length_take] at this
    simp at this hx
    omega
theorem RowSh.grown {w w' : World} {base : Nat} {u : Value} {r : Option Nat} (h : RowSh w base u) (hg : w.grownBy w' r) (hr : ∀ g cs, Blk w g 3 cs → r ≠ some g) : RowSh w' base u := by
  obtain ⟨B, q, c, e, hq, h2⟩ := h
  refine ⟨B, q, c, e, hq, fun h0 => ?_⟩
  obtain ⟨g, cur, e2, h3, h4, h5⟩ := h2 h0
  exact ⟨g, cur, e2, h3, h4.grown hg (hr g cur h4), h5⟩
theorem RowSh.set {w : World} {base g i : Nat} {u x : Value} (h : RowSh w base u) {cs : Array Value} (hg : Blk w g 3 cs) : RowSh (w.setCell ⟨g, i, none⟩ x) base u := by
  obtain ⟨B, q, c, e, hq, h2⟩ := h
  refine ⟨B, q, c, e, hq, fun h0 => ?_⟩
  obtain ⟨g', cur, e2, h3, h4, h5⟩ := h2 h0
  by_cases e3 : g' = g
  · subst e3
    exact ⟨g', _, e2, h3, blk_setSame h4 i x, by simpa using h5⟩
  · exact ⟨g', cur, e2, h3, blk_other h4 e3, h5⟩
/-- an answer's lists, whatever they hold -/
theorem AhPost.shape {e : EnvD} {r : RowD} {n : Nat} {Q : Nat → Int → Prop} {w w' : World} {en : Ending} (h : AhPost e r n Q w en w') (hn : CheckP e r → n ≤ 4096) (hQ : CheckP e r → ∀ i x, Q i x → 0 ≤ x ∧ x < r.places) :
    ∃ v x m vs, en = .returned (.tuple #[v, .int .i64 x]) ∧ m ≤ 4096 ∧ w'.ownsRow w.heap.size 23 1 v m vs ∧ (∀ u ∈ vs, RowSh w' w.heap.size u) ∧ Below w.heap.size w w' := by
  rcases h with ⟨_, e1, hb⟩ | ⟨hc, v, e1, hT, hb⟩
  · exact ⟨_, _, 0, [], e1, by omega, World.ownsRow_nil _ _ _ _, fun u h => by simp at h, hb⟩
  · obtain ⟨vs, PP, h1, h2, h3, h4⟩ := hT
    refine ⟨v, _, n, vs, e1, hn hc, h1, fun u hu => ?_, hb⟩
    obtain ⟨i, hi⟩ := List.mem_iff_getElem?.1 hu
    have hlt : i < PP.length := by rw [← h2.1]; exact (List.getElem?_eq_some_iff.1 hi).1
    have hp := List.getElem?_eq_getElem hlt
    exact RowSh.of (h2.2 i u _ hi hp) ((h4 i _ hp).small hc (hQ hc i))
theorem rowSh_one {w : World} {base : Nat} {vs : List Value} (h : ∀ u ∈ vs, RowSh w base u) : ∀ u ∈ vs, u.oneCell' = true := fun u hu => by
  obtain ⟨B, q, c, e, _⟩ := h u hu
  subst e
  rfl
/-- the memory that is written over -/
structure OwM (w : World) (ev rv : Array Value) (v : Value) (N : Nat) (vs : List Value) (wr : World) : Prop where
  o : wr.ownsRow w.heap.size 23 1 v N vs
  u : ∀ u ∈ vs, RowSh wr w.heap.size u
  e : Blk wr w.heap.size 26 ev
  r : Blk wr (w.heap.size + 1) 31 rv
  b : Below w.heap.size w wr
theorem OwM.set {w : World} {ev rv : Array Value} {v : Value} {N g i : Nat} {vs : List Value} {wr : World} (h : OwM w ev rv v N vs wr) {cs : Array Value} (hg : Blk wr g 3 cs) (hb : w.heap.size ≤ g) (x : Value) : OwM w ev rv v N vs (wr.setCell ⟨g, i, none⟩ x) :=
  ⟨own_other h.o (own_ne h.o hg (by decide)), fun u hu => (h.u u hu).set hg, blk_other h.e (blk_ne h.e hg (by decide)), blk_other h.r (blk_ne h.r hg (by decide)), h.b.setCell (p := ⟨g, i, none⟩) hb x⟩
set_option maxRecDepth 100000 in
set_option maxHeartbeats 8000000 in
theorem LiveOwn_walk (e : EnvD) (r : RowD) (ve vr : Value) (w : World) (he : EnvV w ve e) (hr : RowV w vr r) : Calls Try.prog 7 #[ve, vr] w (LawPost w) := by
  have HE := Lib.hid he
  have HR := Lib.hid hr
  obtain ⟨va, vb, vd, rfl, h1, h2, h3⟩ := he
  obtain ⟨vp, vq, vr, vs, rfl, h4, h5, h6, h7⟩ := hr
  clear h1 h2 h3 h4 h5 h6 h7
  have HB := Lib.hid (al2 w (.cells #[va, .int .i64 e.imports, vb, vd, .bool e.mem] 26) (.cells #[vp, vq, .int .i64 r.places, vr, vs] 31))
  have KE := Lib.hid (Blk.alloc (Blk.new w 26 #[va, .int .i64 e.imports, vb, vd, .bool e.mem]) (.cells #[vp, vq, .int .i64 r.places, vr, vs] 31))
  have KR := Lib.hid (Blk.newAt (w.alloc (.cells #[va, .int .i64 e.imports, vb, vd, .bool e.mem] 26)) (N := w.heap.size + 1) 31 #[vp, vq, .int .i64 r.places, vr, vs] (by simp))
  go_enter Try.func7, Try.ntmps7
  go_wp2_with fail
  (with_reducible refine (Ahead_any e r _ _ _ (HE.out.below HB.out (Nat.le_refl _)) (HR.out.below HB.out (Nat.le_refl _))).mono ?_)
  rintro en w1 hp
  obtain ⟨v1, x1, n1, vs1, rfl, hn1, ho1, hs1, hb⟩ := hp.shape (fun hc => hc.n2) (fun hc i x h => h.range hc)
  have O1 := Lib.hid (own_mono ho1 HB.out.size)
  have S1 := Lib.hid (fun u (hu : u ∈ vs1) => (show RowSh w1 w.heap.size u by
    obtain ⟨B, q, c, e, hq, h2⟩ := hs1 u hu
    exact ⟨B, q, c, e, hq, fun h0 => by
      obtain ⟨g, cur, e2, h3, h4, h5⟩ := h2 h0
      exact ⟨g, cur, e2, by have := HB.out.size; omega, h4, h5⟩⟩))
  have HB1 := Lib.hid (HB.out.trans (hb.mono HB.out.size))
  have KE1 := Lib.hid (KE.out.below hb KE.out.lt)
  have KR1 := Lib.hid (KR.out.below hb KR.out.lt)
  clear hp ho1 hs1 hb HB KE KR
  obtain ⟨r0, r1, r2, r3, r4⟩ := blk5 KR1.out
  obtain ⟨d0, d1, d2, d3, d4⟩ := blk5 KE1.out
  have y0 := KE1.out.lt
  have y1 := KR1.out.lt
  go_wp2_with fail
  (with_reducible refine (Clash_any e r _ _ _ (HE.out.below HB1.out (Nat.le_refl _)) (HR.out.below HB1.out (Nat.le_refl _))).mono ?_)
  rintro en w2 hp
  obtain ⟨v2, x2, n2, vs2, rfl, hn2, ho2, hs2, hb⟩ := hp.shape (fun hc => by have := hc.p2; omega) (fun hc i x h => h.range hc)
  have O2 := Lib.hid (own_mono ho2 HB1.out.size)
  have S2 := Lib.hid (fun u (hu : u ∈ vs2) => (show RowSh w2 w.heap.size u by
    obtain ⟨B, q, c, e, hq, h2⟩ := hs2 u hu
    exact ⟨B, q, c, e, hq, fun h0 => by
      obtain ⟨g, cur, e2, h3, h4, h5⟩ := h2 h0
      exact ⟨g, cur, e2, by have := HB1.out.size; omega, h4, h5⟩⟩))
  have O1 := Lib.hid (own_below O1.out hb (Nat.le_refl _))
  have S1 := Lib.hid (fun u hu => (S1.out u hu).grown (below_grownBy hb) (fun _ _ _ => by simp))
  have HB2 := Lib.hid (HB1.out.trans (hb.mono HB1.out.size))
  have KE2 := Lib.hid (KE1.out.below hb KE1.out.lt)
  have KR2 := Lib.hid (KR1.out.below hb KR1.out.lt)
  clear hp ho2 hs2 hb HB1 KE1 KR1 r0 r1 r2 r3 r4 d0 d1 d2 d3 d4 y0 y1
  obtain ⟨A1, c1, rfl, _⟩ := own_shape O1.out
  obtain ⟨A2, c2, rfl, _⟩ := own_shape O2.out
  have SR2 := Lib.hid (Bk.Src.of_own O2.out)
  have hz2 := HB2.out.size
  go_wp2_with (at_builtin; refine append_at _ rfl (.tmp 28) (.tmp 29) 32 rfl w.heap.size 23 (.slice none 0 0) 1 24 Try.underlying32 info_ints rfl (by omega) (.slice A1 n1 c1) n1 vs1 rfl O1.out A2 n2 c2 vs2 rfl (by rw [Nat.mul_one]; exact SR2.out) (rowSh_one S2.out) (by unfold maxLen; omega) (by omega) (by omega) ?_)
  rintro v3 w3 h1 h2 h3 _
  have nr : ∀ g cs, Blk w2 g 3 cs → (Value.slice A1 n1 c1).ownBlock ≠ some g := fun g cs hb => own_ne O1.out hb (by decide)
  have HM := Lib.hid (show OwM w #[va, .int .i64 e.imports, vb, vd, .bool e.mem] #[vp, vq, .int .i64 r.places, vr, vs] v3 (n1 + n2) (vs1 ++ vs2) w3 from
    ⟨h1, fun u hu => (by
      rcases List.mem_append.1 hu with h | h
      · exact (S1.out u h).grown h2 nr
      · exact (S2.out u h).grown h2 nr), KE2.out.grown h2 (own_ne O1.out KE2.out (by decide)), KR2.out.grown h2 (own_ne O1.out KR2.out (by decide)), below_grown HB2.out h2 hz2 (fun j hj => (O1.out.lt j hj).1)⟩)
  obtain ⟨A3, c3, rfl, _⟩ := own_shape h1
  obtain ⟨N, hN⟩ : ∃ N, n1 + n2 = N := ⟨_, rfl⟩
  have hN8 : N ≤ 8192 := by omega
  obtain ⟨us, hus⟩ : ∃ us, vs1 ++ vs2 = us := ⟨_, rfl⟩
  rw [hN, hus] at HM
  have hN2 : N ≤ 8192 := by omega
  rw [hN]
  clear h1 h2 h3 nr O1 O2 S1 S2 SR2 HB2 KE2 KR2 hN hus hz2
  go_wp2
  go_loopw [32] (fun i wr => ∃ k : Nat, k ≤ N ∧ i = .int .i64 k ∧ Hid (OwM w #[va, .int .i64 e.imports, vb, vd, .bool e.mem] #[vp, vq, .int .i64 r.places, vr, vs] (.slice A3 N c3) N us wr)) (fun i _ => N - (intOf i).toNat)
  case atStart => exact ⟨0, by omega, rfl, HM⟩
  case round =>
    clear HM
    obtain ⟨k, hk, rfl, IM⟩ := hrel
    by_cases hkN : k < N
    · have t1 : decide ((k : Int) < N) = true := by simp; omega
      have t2 : (k : Int) < N := by omega
      obtain ⟨gv, cv, hv, hgv, hbv, _⟩ := own_at IM.out.o (by omega)
      injection hv with hv1 hv2 hv3
      subst hv1
      subst hv3
      have hul := IM.out.o.1
      rw [Nat.mul_one] at hul
      obtain ⟨u, hu⟩ : ∃ u, us[k]? = some u := ⟨_, List.getElem?_eq_getElem (by omega)⟩
      have c0 := IM.out.o.cellAt k (by omega)
      rw [hu] at c0
      obtain ⟨B, q, c, rfl, hq, h2⟩ := IM.out.u u (List.mem_of_getElem? hu)
      have HU := Lib.hid (List.mem_of_getElem? hu)
      clear h2 hu hul
      go_wp2_with fail
      clear c0 hgv hbv
      go_loopw [38] (fun i wr => ∃ j : Nat, j ≤ q ∧ i = .int .i64 j ∧ Hid (OwM w #[va, .int .i64 e.imports, vb, vd, .bool e.mem] #[vp, vq, .int .i64 r.places, vr, vs] (.slice (some ⟨gv, 0, none⟩) N c3) N us wr)) (fun i _ => q - (intOf i).toNat)
      case atStart => exact ⟨0, by omega, rfl, IM⟩
      case round =>
        clear IM
        obtain ⟨j, hj, rfl, IM⟩ := hrel
        by_cases hjq : j < q
        · have t3 : decide ((j : Int) < q) = true := by simp; omega
          have t4 : (j : Int) < q := by omega
          obtain ⟨B', q', c', he, _, h2⟩ := IM.out.u _ HU.out
          injection he with e1 e2 e3
          subst e1
          subst e2
          obtain ⟨g, cur, rfl, hg, hb, hcs⟩ := h2 (by omega)
          have z1 := frz hb j
          obtain ⟨u3, c3⟩ : ∃ u, wr.cell? ⟨g, j, none⟩ = some u := ⟨cur[j]'(by omega), by rw [hb.cell j]; exact Array.getElem?_eq_getElem (by omega)⟩
          have y1 := hb.lt
          have HM := Lib.hid (IM.out.set (i := j) hb hg (.int .i64 (-1)))
          clear h2 hb hg IM
          go_wp2
          exact ⟨⟨j + 1, by omega, by simp, HM⟩, by simp [intOf]; omega⟩
        · have t3 : decide ((j : Int) < q) = false := by simp; omega
          go_wp2
          exact ⟨⟨k + 1, by omega, by simp, IM⟩, by simp [intOf]; omega⟩
    · have t1 : decide ((k : Int) < N) = false := by simp; omega
      obtain ⟨r0, r1, r2, r3, r4⟩ := blk5 IM.out.r
      obtain ⟨d0, d1, d2, d3, d4⟩ := blk5 IM.out.e
      have y0 := IM.out.e.lt
      have y1 := IM.out.r.lt
      have KE := Lib.hid IM.out.e
      have KR := Lib.hid IM.out.r
      have HB := Lib.hid IM.out.b
      clear IM
      by_cases hc : CheckP e r
      · have HC := Lib.hid hc
        clear hc
        go_wp2_with fail
        (with_reducible refine (Ahead_any e r _ _ _ (HE.out.below HB.out (Nat.le_refl _)) (HR.out.below HB.out (Nat.le_refl _))).mono ?_)
        rintro en w1 (⟨hnc, _, _⟩ | ⟨_, v0, rfl, hT, hb⟩)
        · exact absurd HC.out hnc
        clear r0 r1 r2 r3 r4 d0 d1 d2 d3 d4 y0 y1
        have T0 := Lib.hid hT
        clear hT
        have HB := Lib.hid (HB.out.trans (hb.mono HB.out.size))
        have KE := Lib.hid (KE.out.below hb KE.out.lt)
        have KR := Lib.hid (KR.out.below hb KR.out.lt)
        clear hb
        obtain ⟨r0, r1, r2, r3, r4⟩ := blk5 KR.out
        obtain ⟨d0, d1, d2, d3, d4⟩ := blk5 KE.out
        have y0 := KE.out.lt
        have y1 := KR.out.lt
        go_wp2_with fail
        (with_reducible refine (rAhead_any e r _ _ _ (HE.out.below HB.out (Nat.le_refl _)) (HR.out.below HB.out (Nat.le_refl _))).mono ?_)
        rintro en w2 (⟨hnc, _, _⟩ | ⟨_, v1, rfl, hT, hb⟩)
        · exact absurd HC.out hnc
        clear r0 r1 r2 r3 r4 d0 d1 d2 d3 d4 y0 y1
        have T0 := Lib.hid (T0.out.below hb)
        have T1 := Lib.hid hT
        clear hT
        have HB := Lib.hid (HB.out.trans (hb.mono HB.out.size))
        have KE := Lib.hid (KE.out.below hb KE.out.lt)
        have KR := Lib.hid (KR.out.below hb KR.out.lt)
        clear hb
        obtain ⟨r0, r1, r2, r3, r4⟩ := blk5 KR.out
        obtain ⟨d0, d1, d2, d3, d4⟩ := blk5 KE.out
        have y0 := KE.out.lt
        have y1 := KR.out.lt
        clear r0 r1 r2 r3 r4 d0 d1 d2 d3 d4 y0 y1 KE KR
        obtain ⟨P0, hA, hB, hl, hp⟩ := told_two (wa := w) (wb := w) HC.out (fun i x (h : Live r i x) => h.range HC.out) HC.out.n2 T0.out T1.out
        have LA0 := Lib.hid hA
        have LB0 := Lib.hid hB
        have LL0 := Lib.hid hl
        have LP0 := Lib.hid hp
        clear hA hB hl hp
        go_wp2_with fail
        (with_reducible refine (Lists_eq _ _ P0 _ LA0.out LB0.out LL0.out LP0.out).mono ?_)
        rintro en wd0 ⟨rfl, m0, rfl⟩
        go_wp2_with fail
        refine (alive_any _).mono ?_
        rintro en w9 ⟨rfl, hb⟩
        have HB9 := Lib.hid ((below_drewN HB.out _).trans (hb.mono (below_drewN HB.out _).size))
        clear hb
        go_wp2
        go_ret
        exact ⟨rfl, HB9.out⟩
      · have HC := Lib.hid hc
        clear hc
        go_wp2_with fail
        (with_reducible refine (Ahead_any e r _ _ _ (HE.out.below HB.out (Nat.le_refl _)) (HR.out.below HB.out (Nat.le_refl _))).mono ?_)
        rintro en w1 (⟨_, rfl, hb⟩ | ⟨hc, _⟩)
        rotate_left
        · exact absurd hc HC.out
        clear r0 r1 r2 r3 r4 d0 d1 d2 d3 d4 y0 y1
        have HB := Lib.hid (HB.out.trans (hb.mono HB.out.size))
        have KE := Lib.hid (KE.out.below hb KE.out.lt)
        have KR := Lib.hid (KR.out.below hb KR.out.lt)
        clear hb
        obtain ⟨r0, r1, r2, r3, r4⟩ := blk5 KR.out
        obtain ⟨d0, d1, d2, d3, d4⟩ := blk5 KE.out
        have y0 := KE.out.lt
        have y1 := KR.out.lt
        go_wp2_with fail
        (with_reducible refine (rAhead_any e r _ _ _ (HE.out.below HB.out (Nat.le_refl _)) (HR.out.below HB.out (Nat.le_refl _))).mono ?_)
        rintro en w2 (⟨_, rfl, hb⟩ | ⟨hc, _⟩)
        rotate_left
        · exact absurd hc HC.out
        clear r0 r1 r2 r3 r4 d0 d1 d2 d3 d4 y0 y1
        have HB := Lib.hid (HB.out.trans (hb.mono HB.out.size))
        have KE := Lib.hid (KE.out.below hb KE.out.lt)
        have KR := Lib.hid (KR.out.below hb KR.out.lt)
        clear hb
        obtain ⟨r0, r1, r2, r3, r4⟩ := blk5 KR.out
        obtain ⟨d0, d1, d2, d3, d4⟩ := blk5 KE.out
        have y0 := KE.out.lt
        have y1 := KR.out.lt
        clear r0 r1 r2 r3 r4 d0 d1 d2 d3 d4 y0 y1 KE KR
        go_wp2_with fail
        (with_reducible refine (Lists_eq _ _ [] _ (ll_nil _) (ll_nil _) (by simp) (by simp)).mono ?_)
        rintro en wd0 ⟨rfl, m0, rfl⟩
        go_wp2_with fail
        refine (alive_any _).mono ?_
        rintro en w9 ⟨rfl, hb⟩
        have HB9 := Lib.hid ((below_drewN HB.out _).trans (hb.mono (below_drewN HB.out _).size))
        clear hb
        go_wp2
        go_ret
        exact ⟨rfl, HB9.out⟩
end Go.Proofs.Ytkfnnmdghibjbaa
