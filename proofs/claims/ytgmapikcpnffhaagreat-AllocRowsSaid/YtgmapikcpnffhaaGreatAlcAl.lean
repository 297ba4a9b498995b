/-
 alive: the small row's places live in registers; AllocRight; AllocFrames.
 Conditions: none.
-/
import Derived.Test.YtgmapikcpnffhaaGreatAlcRun
import Derived.Test.YtgmapikcpnffhaaGreatAlcRt
import Derived.Test.YtgmapikcpnffhaaGreatLivAl
import Derived.Test.YtgmapikcpnffhaaGreatLivMu
namespace Go.Bk.Liv
open Go Go.RowKit Go.Bk
theorem top_16 {hs : List Int} (h : ∀ x ∈ hs, x < 16) : topOf hs = 16 := by
 have h1 := topFrom_ge hs 16
 have h2 := topFrom_le hs 16 16 (Int.le_refl _) (fun x hx => by have := h x hx; omega)
 show topFrom 16 hs = 16
 omega
end Go.Bk.Liv
namespace Go.Proofs.YtgmapikcpnffhaaGreat
open Go.RowKit Go.Bk Go.Bk.Liv
set_option linter.unusedVariables false
set_option linter.unusedSimpArgs false
theorem CodesO.len {w : World} {base : Nat} {v : Value} {C : List CodeD} (h : CodesO w base v C) : ∃ A c, v = .slice A C.length c := by
 obtain ⟨vs, h1, _, _⟩ := h
 obtain ⟨A, c, e, _⟩ := own_shape h1
 exact ⟨A, c, e⟩
set_option maxRecDepth 100000 in
set_option maxHeartbeats 4000000 in
theorem alive_any (w : World) : Calls Tryz.prog 12 #[] w (AlPost w) := by
 go_enter Tryz.func12, Tryz.ntmps12
 go_wp2_with fail
 refine (small_any _).mono ?_
 rintro en w1 ⟨v1, rfl, hr1, hb1⟩
 have HR1 := Lib.hid hr1
 have HB1 := Lib.hid hb1
 clear hr1 hb1
 go_wp2_with fail
 (with_reducible refine (homes_x noE smallD _ _ _ (noE_v _) HR1.out).mono ?_)
 rintro en w2 (⟨hn, _, _⟩ | ⟨_, hbig, _, _⟩ | ⟨_, P, hs, g, hP, hP2, hRP, rfl, hg, hk, hb⟩)
 ·exact absurd small_ok hn
 ·exact absurd hbig (by decide)
 have hP' : P = 2 := by have : smallD.places = 2 := rfl; omega
 subst hP'
 have HRP := Lib.hid hRP
 have HH2 := Lib.hid (show IR w2 (.slice (some ⟨g, 0, none⟩) 2 2) hs from IR.of (Blk.srcAll hk (by simp [i64s, hRP.len])) hRP.len)
 have HB2 := Lib.hid (HB1.out.trans (hb.mono HB1.out.size))
 clear hb hk hRP hg hP hP2 HR1
 go_wp2_with fail
 refine (small_any _).mono ?_
 rintro en w3 ⟨v3, rfl, hr1, hb1⟩
 have HR3 := Lib.hid hr1
 have HB3 := Lib.hid (HB2.out.trans (hb1.mono HB2.out.size))
 have HH3 := Lib.hid (HH2.out.below hb1 (Nat.le_refl _))
 clear hr1 hb1 HH2
 go_wp2_with fail
 (with_reducible refine (run_any noE smallD _ _ _ (noE_v _) HR3.out).mono ?_)
 rintro en w4 (⟨hn, _, _⟩ | ⟨_, hbig, _, _⟩ | ⟨_, P, hs2, a, b, p, d, hP, hP2, hRP2, rfl, oa, ob, op, oc, hb⟩)
 ·exact absurd small_ok hn
 ·exact absurd hbig (by decide)
 have hP' : P = 2 := by have : smallD.places = 2 := rfl; omega
 subst hP'
 have htop : topOf hs2 = 16 := top_16 (fun x hx => (hRP2.ok x hx).2.2.2 (by decide))
 rw [htop]
 obtain ⟨A1, c1, rfl, _⟩ := own_shape oa
 obtain ⟨A2, c2, rfl, _⟩ := own_shape ob
 obtain ⟨A3, c3, rfl, _⟩ := own_shape op
 obtain ⟨A4, c4, rfl⟩ := oc.len
 have HB4 := Lib.hid (HB3.out.trans (hb.mono HB3.out.size))
 have HH4 := Lib.hid (HH3.out.below hb (Nat.le_refl _))
 clear hb HH3 HR3 oa ob op oc hRP2 hP hP2 htop
 rw [show (smallD.code.map (toldC hs2)).length = 4 from rfl]
 go_wp2_with fail
 have hal := Lib.hid ((Below.refl w4.heap.size w4).alloc (Nat.le_refl _) (.cells #[.slice A1 smallD.sig.inn.length c1, .slice A2 smallD.sig.out.length c2, .int .i64 16, .slice A3 smallD.params.length c3, .slice A4 4 c4] 31))
 have HK := Lib.hid (Blk.new w4 31 #[.slice A1 smallD.sig.inn.length c1, .slice A2 smallD.sig.out.length c2, .int .i64 16, .slice A3 smallD.params.length c3, .slice A4 4 c4])
 refine (small_any _).mono ?_
 rintro en w5 ⟨v5, rfl, hr1, hb1⟩
 have HR5 := Lib.hid hr1
 have HB5 := Lib.hid ((HB4.out.trans (hal.out.mono HB4.out.size)).trans (hb1.mono (HB4.out.trans (hal.out.mono HB4.out.size)).size))
 have HH5 := Lib.hid ((HH4.out.below hal.out (Nat.le_refl _)).below hb1 (Nat.le_refl _))
 have HK5 := Lib.hid (HK.out.below hb1 HK.out.lt)
 clear hr1 hb1 hal HK HH4
 go_wp2_with fail
 (with_reducible refine (right_any noE smallD _ _ _ hs 2 _ (noE_v _) HR5.out small_ok rfl (by decide) HRP.out.toRightP HH5.out).mono ?_)
 rintro en w6 ⟨rfl, hb⟩
 have HB6 := Lib.hid (HB5.out.trans (hb.mono HB5.out.size))
 have HK6 := HK5.out.below hb HK5.out.lt
 obtain ⟨r0, r1, r2, r3, r4⟩ := blk5 HK6
 have y1 := HK6.lt
 clear hb HK6 HH5 HR5 HK5
 go_wp2
 go_ret
 exact ⟨rfl, HB6.out⟩
end Go.Proofs.YtgmapikcpnffhaaGreat
