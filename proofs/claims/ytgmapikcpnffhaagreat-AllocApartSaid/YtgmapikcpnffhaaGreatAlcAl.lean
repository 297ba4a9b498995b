/-
  alive: the small row's places live in registers; AllocRight; AllocFrames.
  Conditions: none.
-/
import Derived.Test.YtgmapikcpnffhaaGreatAlcRun
import Derived.Test.YtgmapikcpnffhaaGreatAlcRt
import Derived.Test.YtgmapikcpnffhaaGreatLivAl
import Derived.Test.YtgmapikcpnffhaaGreatLivMu
namespace Go.Bk.Liv
open Go Go.RowKit Go.Bk
theorem top_16 {hs : List Int} (h : ∀ x ∈ hs, x < 16) : topOf hs = 16 := by
  have h1 := topFrom_ge hs 16
  have h2 := topFrom_le hs 16 16 (Int.le_refl _) (fun x hx => by have := h x hx; omega)
  show topFrom 16 hs = 16
  omega
end Go.Bk.Liv
namespace Go.Proofs.YtgmapikcpnffhaaGreat
open Go.RowKit Go.Bk Go.Bk.Liv
set_option linter.unusedVariables false
set_option linter.unusedSimpArgs false
theorem CodesO.len {w : World} {base : Nat} {v : Value} {C : List CodeD} (h : CodesO w base v C) : ∃ A c, v = .slice A C.length c := by
  obtain ⟨vs, h1, _, _⟩ := h
  obtain ⟨A, c, e, _⟩ := own_shape h1
  exact ⟨A, c, e⟩
set_option maxRecDepth 100000 in
set_option maxHeartbeats 4000000 in
theorem alive_any (w : World) : Calls Tryz.prog 12 #[] w (AlPost w) := by
  go_enter Tryz.func12, Tryz.ntmps12
  go_wp2_with fail
  refine (small_any _).mono ?_
  rintro en w1 ⟨v1, rfl, hr1, hb1⟩
  have HR1 := Lib.hid hr1
  have HB1 := Lib.hid hb1
  clear hr1 hb1
  go_wp2_with fail
  (with_reducible refine (homes_x noE smallD _ _ _ (noE_v _) HR1.out).mono ?_)
  rintro en w2 (⟨hn, _, _⟩ | ⟨_, hbig, _, _⟩ | ⟨_, P, hs, g, hP, hP2, hRP, rfl, hg, hk, hb⟩)
  · exact absurd small_ok hn
  · exact absurd hbig (by decide)
  have hP' : P = 2 := by have : smallD.places = 2 := rfl; omega
  subst hP'
  have HRP := Lib.hid hRP
  have HH2 := Lib.hid (show IR w2 (.slice (some ⟨g, 0, none⟩) 2 2) hs from IR.of (Blk.srcAll hk (by simp [i64s, hRP.len])) hRP.len)
  have HB2 := Lib.hid (HB1.out.trans (hb.mono HB1.out.size))
  clear hb hk hRP hg hP hP2 HR1
  go_wp2_with fail
  refine (small_any _).mono ?_
  rintro en w3 ⟨v3, rfl, hr1, hb1⟩
  have HR3 := Lib.hid hr1
  have HB3 := Lib.hid (HB2.out.trans (hb1.mono HB2.out.size))
  have HH3 := Lib.hid (HH2.out.below hb1 (Nat.le_refl _))
  clear hr1 hb1 HH2
  go_wp2_with fail
  (with_reducible refine (run_any noE smallD _ _ _ (noE_v _) HR3.out).mono ?_)
  rintro en w4 (⟨hn, _, _⟩ | ⟨_, hbig, _, _⟩ | ⟨_, P, hs2, a, b, p, d, hP, hP2, hRP2, rfl, oa, ob, op, oc, hb⟩)
  · exact absurd small_ok hn
  · exact absurd hbig (by decide)
  have hP' : P = 2 := by have : smallD.places = 2 := rfl; omega
  subst hP'
  have htop : topOf hs2 = 16 := top_16 (fun x hx => (hRP2.ok x hx).2.2.2 (by decide))
  rw [htop]
  obtain ⟨A1, c1, rfl, _⟩ := own_shape oa
  obtain ⟨A2, c2, rfl, _⟩ := own_shape ob
  obtain ⟨A3, c3, rfl, _⟩ := own_shape op
  obtain ⟨A4, c4, rfl⟩ := oc.len
  have HB4 := Lib.hid (HB3.out.trans (hb.mono HB3.out.size))
  have HH4 := Lib.hid (HH3.out.below hb (Nat.le_refl _))
  clear hb HH3 HR3 oa ob op oc hRP2 hP hP2 htop
  rw [show (smallD.code.map (toldC hs2)).length = 4 from rfl]
  go_wp2_with fail
  have hal := Lib.hid ((Below.refl w4.heap.size w4).alloc (Nat.le_refl _) (.cells #[.slice A1 smallD.sig.inn.length c1, .slice A2 smallD.sig.out.length c2, .int .i64 16, .slice A3 smallD.params.length c3, .slice A4 4 c4] 31))
  have HK := Lib.hid (Blk.new w4 31 #[.slice A1 smallD.sig.inn.length c1, .slice A2 smallD.sig.out.length c2, .int .i64 16, .slice A3 smallD.params.length c3, .slice A4 4 c4])
  refine (small_any _).mono ?_
  rintro en w5 ⟨v5, rfl, hr1, hb1⟩
  have HR5 := Lib.hid hr1
  have HB5 := Lib.hid ((HB4.out.trans (hal.out.mono HB4.out.size)).trans (hb1.mono (HB4.out.trans (hal.out.mono HB4.out.size)).size))
  have HH5 := Lib.hid ((HH4.out.below hal.out (Nat.le_refl _)).below hb1 (Nat.le_refl _))
  have HK5 := Lib.hid (HK.out.below hb1 HK.out.lt)
  clear hr1 hb1 hal HK HH4
  go_wp2_with fail
  (with_reducible refine (right_any noE smallD _ _ _ hs 2 _ (noE_v _) HR5.out small_ok rfl (by decide) HRP.out.toRightP HH5.out).mono ?_)
  rintro en w6 ⟨rfl, hb⟩
  have HB6 := Lib.hid (HB5.out.trans (hb.mono HB5.out.size))
  have HK6 := HK5.out.below hb HK5.out.lt
  obtain ⟨r0, r1, r2, r3, r4⟩ := blk5 HK6
  have y1 := HK6.lt
  clear hb HK6 HH5 HR5 HK5
  go_wp2
  go_ret
  exact ⟨rfl, HB6.out⟩
set_option maxRecDepth 100000 in
set_option maxHeartbeats 4000000 in
theorem AllocRight_walk (e : EnvD) (r : RowD) (ve vr : Value) (w : World) (he : EnvV w ve e) (hr : RowV w vr r) : Calls Tryz.prog 3 #[ve, vr] w (LawPost w) := by
  have HE := Lib.hid he
  have HR := Lib.hid hr
  obtain ⟨va, vb, vd, rfl, h1, h2, h3⟩ := he
  obtain ⟨vp, vq, vpar, vs, rfl, h4, h5, h6, h7⟩ := hr
  clear h1 h2 h3 h4 h5 h6 h7
  have HB0 := Lib.hid (al2 w (.cells #[va, .int .i64 e.imports, vb, vd, .bool e.mem] 26) (.cells #[vp, vq, .int .i64 r.places, vpar, vs] 31))
  have KE0 := Lib.hid (Blk.alloc (Blk.new w 26 #[va, .int .i64 e.imports, vb, vd, .bool e.mem]) (.cells #[vp, vq, .int .i64 r.places, vpar, vs] 31))
  have KR0 := Lib.hid (Blk.newAt (w.alloc (.cells #[va, .int .i64 e.imports, vb, vd, .bool e.mem] 26)) (N := w.heap.size + 1) 31 #[vp, vq, .int .i64 r.places, vpar, vs] (by simp))
  go_enter Tryz.func3, Tryz.ntmps3
  go_wp2_with fail
  (with_reducible refine (homes_x e r _ _ _ (HE.out.below HB0.out (Nat.le_refl _)) (HR.out.below HB0.out (Nat.le_refl _))).mono ?_)
  rintro en w1 (⟨hnc, rfl, hb1⟩ | ⟨hc, hbig, rfl, hb1⟩ | ⟨hc, P, hs, g, hP, hP2, hRP, rfl, hg, hk, hb1⟩)
  all_goals
    have HB1 := Lib.hid (HB0.out.trans (hb1.mono HB0.out.size))
    have KE1 := KE0.out.below hb1 KE0.out.lt
    have KR1 := KR0.out.below hb1 KR0.out.lt
    have HKE := Lib.hid KE1
    have HKR := Lib.hid KR1
    obtain ⟨r0, r1, r2, r3, r4⟩ := blk5 KR1
    obtain ⟨s0, s1, s2, s3, s4⟩ := blk5 KE1
    have y1 := KR1.lt
    have y2 := KE1.lt
    clear hb1 KE1 KR1
  · have HNC := Lib.hid hnc
    clear hnc
    go_wp2_with fail
    (with_reducible refine (fault_any e r _ _ _ (HE.out.below HB1.out (Nat.le_refl _)) (HR.out.below HB1.out (Nat.le_refl _))).mono ?_)
    rintro en w2 ⟨x, rfl, (⟨_, rfl⟩ | ⟨hc, _⟩ | ⟨hc, _⟩), hb2⟩
    · have HB2 := Lib.hid (HB1.out.trans (hb2.mono HB1.out.size))
      clear hb2 r0 r1 r2 r3 r4 s0 s1 s2 s3 s4 y1 y2
      go_wp2_with fail
      refine (alive_any _).mono ?_
      rintro en w3 ⟨rfl, hb⟩
      have HB3 := Lib.hid (HB2.out.trans (hb.mono HB2.out.size))
      clear hb
      go_wp2
      go_ret
      exact ⟨rfl, HB3.out⟩
    · exact absurd hc HNC.out
    · exact absurd hc HNC.out
  · have HC := Lib.hid hc
    have HBG := Lib.hid hbig
    clear hc hbig
    go_wp2_with fail
    (with_reducible refine (fault_any e r _ _ _ (HE.out.below HB1.out (Nat.le_refl _)) (HR.out.below HB1.out (Nat.le_refl _))).mono ?_)
    rintro en w2 ⟨x, rfl, (⟨hn, _⟩ | ⟨_, _, rfl⟩ | ⟨_, hle, _⟩), hb2⟩
    · exact absurd HC.out hn
    · have HB2 := Lib.hid (HB1.out.trans (hb2.mono HB1.out.size))
      clear hb2 r0 r1 r2 r3 r4 s0 s1 s2 s3 s4 y1 y2
      go_wp2_with fail
      refine (alive_any _).mono ?_
      rintro en w3 ⟨rfl, hb⟩
      have HB3 := Lib.hid (HB2.out.trans (hb.mono HB2.out.size))
      clear hb
      go_wp2
      go_ret
      exact ⟨rfl, HB3.out⟩
    · have := HBG.out; omega
  · have HC := Lib.hid hc
    have HP := Lib.hid hP
    have HRP := Lib.hid hRP
    have HH1 := Lib.hid (show IR w1 (.slice (some ⟨g, 0, none⟩) P P) hs from IR.of (Blk.srcAll hk (by simp [i64s, hRP.len])) hRP.len)
    clear hc hP hRP hk hg
    go_wp2_with fail
    (with_reducible refine (fault_any e r _ _ _ (HE.out.below HB1.out (Nat.le_refl _)) (HR.out.below HB1.out (Nat.le_refl _))).mono ?_)
    rintro en w2 ⟨x, rfl, (⟨hn, _⟩ | ⟨_, hbig, _⟩ | ⟨_, _, rfl⟩), hb2⟩
    · exact absurd HC.out hn
    · have := HP.out; omega
    · have HB2 := Lib.hid (HB1.out.trans (hb2.mono HB1.out.size))
      have HH2 := Lib.hid (HH1.out.below hb2 (Nat.le_refl _))
      have KE2 := HKE.out.below hb2 HKE.out.lt
      have KR2 := HKR.out.below hb2 HKR.out.lt
      clear hb2 r0 r1 r2 r3 r4 s0 s1 s2 s3 s4 y1 y2 HKE HKR
      obtain ⟨r0, r1, r2, r3, r4⟩ := blk5 KR2
      obtain ⟨s0, s1, s2, s3, s4⟩ := blk5 KE2
      have y1 := KR2.lt
      have y2 := KE2.lt
      clear KE2 KR2
      go_wp2_with fail
      (with_reducible refine (right_any e r _ _ _ hs P _ (HE.out.below HB2.out (Nat.le_refl _)) (HR.out.below HB2.out (Nat.le_refl _)) HC.out HP.out hP2 HRP.out.toRightP HH2.out).mono ?_)
      rintro en w4 ⟨rfl, hb⟩
      have HB4 := Lib.hid (HB2.out.trans (hb.mono HB2.out.size))
      clear hb r0 r1 r2 r3 r4 s0 s1 s2 s3 s4 y1 y2
      go_wp2_with fail
      refine (alive_any _).mono ?_
      rintro en w3 ⟨rfl, hb⟩
      have HB3 := Lib.hid (HB4.out.trans (hb.mono HB4.out.size))
      clear hb
      go_wp2
      go_ret
      exact ⟨rfl, HB3.out⟩
set_option maxRecDepth 100000 in
set_option maxHeartbeats 4000000 in
theorem AllocFrames_walk (e : EnvD) (r : RowD) (ve vr : Value) (w : World) (he : EnvV w ve e) (hr : RowV w vr r) : Calls Tryz.prog 6 #[ve, vr] w (LawPost w) := by
  have HE := Lib.hid he
  have HR := Lib.hid hr
  obtain ⟨va, vb, vd, rfl, h1, h2, h3⟩ := he
  obtain ⟨vp, vq, vpar, vs, rfl, h4, h5, h6, h7⟩ := hr
  obtain ⟨Ac, cc, rfl, _⟩ := h7.len
  clear h1 h2 h3 h4 h5 h6 h7
  have HB0 := Lib.hid (al2 w (.cells #[va, .int .i64 e.imports, vb, vd, .bool e.mem] 26) (.cells #[vp, vq, .int .i64 r.places, vpar, .slice Ac r.code.length cc] 31))
  have KR0 := Lib.hid (Blk.newAt (w.alloc (.cells #[va, .int .i64 e.imports, vb, vd, .bool e.mem] 26)) (N := w.heap.size + 1) 31 #[vp, vq, .int .i64 r.places, vpar, .slice Ac r.code.length cc] (by simp))
  go_enter Tryz.func6, Tryz.ntmps6
  go_wp2_with fail
  (with_reducible refine (run_any e r _ _ _ (HE.out.below HB0.out (Nat.le_refl _)) (HR.out.below HB0.out (Nat.le_refl _))).mono ?_)
  rintro en w1 (⟨hnc, rfl, hb1⟩ | ⟨hc, hbig, rfl, hb1⟩ | ⟨hc, P, hs, a, b, p, d, hP, hP2, hRP, rfl, oa, ob, op, oc, hb1⟩)
  · have HB1 := Lib.hid (HB0.out.trans (hb1.mono HB0.out.size))
    clear hb1 hnc
    go_wp2_with fail
    refine (alive_any _).mono ?_
    rintro en w3 ⟨rfl, hb⟩
    have HB3 := Lib.hid ((HB1.out.alloc HB1.out.size (.cells #[.slice none 0 0, .slice none 0 0, .int .i64 0, .slice none 0 0, .slice none 0 0] 31)).trans (hb.mono (HB1.out.alloc HB1.out.size (.cells #[.slice none 0 0, .slice none 0 0, .int .i64 0, .slice none 0 0, .slice none 0 0] 31)).size))
    clear hb
    go_wp2
    go_ret
    exact ⟨rfl, HB3.out⟩
  · have HB1 := Lib.hid (HB0.out.trans (hb1.mono HB0.out.size))
    clear hb1 hc hbig
    go_wp2_with fail
    refine (alive_any _).mono ?_
    rintro en w3 ⟨rfl, hb⟩
    have HB3 := Lib.hid ((HB1.out.alloc HB1.out.size (.cells #[.slice none 0 0, .slice none 0 0, .int .i64 0, .slice none 0 0, .slice none 0 0] 31)).trans (hb.mono (HB1.out.alloc HB1.out.size (.cells #[.slice none 0 0, .slice none 0 0, .int .i64 0, .slice none 0 0, .slice none 0 0] 31)).size))
    clear hb
    go_wp2
    go_ret
    exact ⟨rfl, HB3.out⟩
  · have HB1 := Lib.hid (HB0.out.trans (hb1.mono HB0.out.size))
    have HT := Lib.hid hRP.top
    obtain ⟨T, hT⟩ : ∃ T : Nat, topOf hs = T := ⟨(topOf hs).toNat, by have := hRP.top; omega⟩
    obtain ⟨n, hn⟩ : ∃ n, r.code.length = n := ⟨_, rfl⟩
    have hT1 : 16 ≤ T ∧ T ≤ 16 + P := by have := hRP.top; omega
    obtain ⟨A1, c1, rfl, _⟩ := own_shape oa
    obtain ⟨A2, c2, rfl, _⟩ := own_shape ob
    obtain ⟨A3, c3, rfl, _⟩ := own_shape op
    obtain ⟨A4, c4, rfl⟩ := oc.len
    have hl : (r.code.map (toldC hs)).length = n := by rw [List.length_map, hn]
    have KR1 := KR0.out.below hb1 KR0.out.lt
    rw [hP, hn] at KR1
    rw [hT, hl]
    obtain ⟨r0, r1, r2, r3, r4⟩ := blk5 KR1
    have y1 := KR1.lt
    have t1 : decide ((T : Int) ≤ 2048) = true := by simp; omega
    have t2 : decide ((16 : Int) ≤ T) = true := by simp; omega
    have t2' : decide ((T : Int) ≥ 16) = true := by simp; omega
    have t3 : IntKind.i64.wrap ((T : Int) - 16) = (T : Int) - 16 := IntWalk.i64_in _ (by omega)
    have t4 : decide ((T : Int) - 16 ≤ P) = true := by simp; omega
    have t5 : ((n : Int) == n) = true := by simp
    have t6 : (n == n) = true := by simp
    have t7 : (T : Int) ≤ 2048 := by omega
    have t8 : (16 : Int) ≤ T := by omega
    have t9 : (T : Int) - 16 ≤ P := by omega
    clear hb1 hc oa ob op oc hRP hP hP2 hT hn hl KR1 HT hT1
    go_wp2_with fail
    refine (alive_any _).mono ?_
    rintro en w3 ⟨rfl, hb⟩
    have HB3 := Lib.hid ((HB1.out.alloc HB1.out.size (.cells #[.slice A1 r.sig.inn.length c1, .slice A2 r.sig.out.length c2, .int .i64 T, .slice A3 r.params.length c3, .slice A4 n c4] 31)).trans (hb.mono (HB1.out.alloc HB1.out.size (.cells #[.slice A1 r.sig.inn.length c1, .slice A2 r.sig.out.length c2, .int .i64 T, .slice A3 r.params.length c3, .slice A4 n c4] 31)).size))
    clear hb
    go_wp2
    go_ret
    exact ⟨rfl, HB3.out⟩
end Go.Proofs.YtgmapikcpnffhaaGreat
