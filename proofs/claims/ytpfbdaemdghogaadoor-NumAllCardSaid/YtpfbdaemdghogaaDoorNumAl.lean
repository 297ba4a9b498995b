/-
  NumAll: what the statement's function answers.
  Conditions: the library's two tables hold what their initialisers lay.
-/
import Derived.Test.YtpfbdaemdghogaaDoorNumRAny
import Derived.Test.YtpfbdaemdghogaaDoorNumSgs
namespace Go.Proofs.YtpfbdaemdghogaaDoor
open Go.RowKit Go.Bk Go.Bk.Num
set_option linter.unusedVariables false
set_option linter.unusedSimpArgs false

theorem ops_sigs : ∀ op ∈ opsL, (0 ≤ op ∧ op < 256) ∧ (sigL op = [127] ∨ sigL op = [126] ∨ sigL op = [127, 127] ∨ sigL op = [126, 126]) := by decide +kernel
theorem fits_not (t : Int) (n : Nat) (h : 0 ≤ t ∧ t < 16) : fitsN t n = false := by
  simp [fitsN]; omega
theorem src_take {w : World} {N : Nat} (h : w.heap.size = N) (x y n : Nat) (hn : n ≤ 2) : Bk.Src (w.alloc (.cells #[.int .u64 (x : Int), .int .u64 (y : Int)] 23)) (some ⟨N, 0, none⟩) n (u64V ([x, y].take n)) := by
  have := (Blk.newAt w 23 #[.int .u64 (x : Int), .int .u64 (y : Int)] h).src n (by simpa using hn)
  have e : u64V ([x, y].take n) = (#[Value.int .u64 (x : Int), .int .u64 (y : Int)].toList.take n) := by simp [u64V, List.map_take]
  rw [e]; exact this
theorem src_take' {w : World} {N : Nat} (h : w.heap.size = N) (x y : Int) (n : Nat) (hn : n ≤ 2) (hx : 0 ≤ x) (hy : 0 ≤ y) : Bk.Src (w.alloc (.cells #[.int .u64 x, .int .u64 y] 23)) (some ⟨N, 0, none⟩) n (u64V ([x.toNat, y.toNat].take n)) := by
  have := src_take h x.toNat y.toNat n hn
  rwa [Int.toNat_of_nonneg hx, Int.toNat_of_nonneg hy] at this
theorem and15 (x : Nat) : 0 ≤ bits .and .u64 (x : Int) 15 ∧ bits .and .u64 (x : Int) 15 < 16 := by
  have h : x % 18446744073709551616 &&& 15 = x % 16 := by
    have := Nat.and_two_pow_sub_one_eq_mod (x % 18446744073709551616) 4
    simp at this
    rw [this]
  show 0 ≤ IntKind.u64.wrap ((BitVec.ofInt 64 (x : Int) &&& BitVec.ofInt 64 15).toNat : Int) ∧ IntKind.u64.wrap ((BitVec.ofInt 64 (x : Int) &&& BitVec.ofInt 64 15).toNat : Int) < 16
  rw [BitVec.toNat_and, BitVec.ofInt_natCast, BitVec.toNat_ofNat, show (BitVec.ofInt 64 15).toNat = 15 from rfl, h, IntKind.wrap_u64]
  omega

set_option maxRecDepth 100000 in
set_option maxHeartbeats 8000000 in
theorem NumAll_true (w : World) (hT : Tabs w) (a : Int) (ha : (Lit.int .u64 a).wf = true) (b : Int) (hb : (Lit.int .u64 b).wf = true) :
    Calls Tryd.prog 4 #[.int .u64 a, .int .u64 b] w fun e w' => e = .returned (.bool true) ∧ Below w.heap.size w w' := by
  obtain ⟨ha1, ha2⟩ := u64_bounds ha
  obtain ⟨x, rfl⟩ := Int.eq_ofNat_of_zero_le ha1
  obtain ⟨hb1, hb2⟩ := u64_bounds hb
  obtain ⟨y, rfl⟩ := Int.eq_ofNat_of_zero_le hb1
  have hx : x < 18446744073709551616 := by omega
  have hy : y < 18446744073709551616 := by omega
  have HMX := Lib.hid (and32i ha1 ha2)
  have HMY := Lib.hid (and32i hb1 hb2)
  obtain ⟨f1, hf1⟩ : ∃ f, fitsN 127 x = f := ⟨_, rfl⟩
  obtain ⟨f2, hf2⟩ : ∃ f, fitsN 126 y = f := ⟨_, rfl⟩
  have HF1 := Lib.hid hf1
  have HF2 := Lib.hid hf2
  have q1 : (f1 == f1) = true := by simp
  have q2 : (f2 == f2) = true := by simp
  have HT := Lib.hid hT
  obtain ⟨K, hK⟩ : ∃ K, opsL.length = K := ⟨_, rfl⟩
  have HK := Lib.hid hK
  have hK2 : K ≤ 256 := by rw [← hK]; exact opsL_len
  clear hT hK ha hb hf1 hf2
  go_enter Tryd.func4, Tryd.ntmps4
  go_wp2_with fail
  refine (ROps_any _).mono ?_
  rintro e w1 ⟨A1, c1, rfl, hw1, hb1⟩
  rw [HK.out] at hw1
  rw [HK.out]
  have hK0 : 0 < K := by rw [← HK.out]; decide +kernel
  obtain ⟨g1, c1', e, hgl, hge, _⟩ := own_at hw1 (by omega)
  injection e with e1 e2 e3
  subst e1
  subst e3
  have HX := Lib.hid (show ∀ k, k < K → ∃ op : Int, w1.cell? ⟨g1, k, none⟩ = some (.int .i64 op) ∧ op ∈ opsL from fun k hk => by
    have h1 := (Src.of_own hw1).at_ hk
    rw [intsV_at (by rw [HK.out]; exact hk), Nat.zero_add] at h1
    exact ⟨_, h1, List.getElem_mem _⟩)
  have HB1 := Lib.hid hb1
  clear hw1 hb1
  go_wp2_with fail
  go_loopw [17] (fun i wr => ∃ k : Nat, k ≤ K ∧ i = .int .i64 k ∧ Hid (Below w1.heap.size w1 wr)) (fun i _ => K + 1 - (intOf i).toNat)
  case atStart => exact ⟨0, by omega, rfl, Lib.hid (Below.refl _ _)⟩
  case round =>
    obtain ⟨wo, rfl⟩ : ∃ wo : World, wo = wr := ⟨_, rfl⟩
    obtain ⟨k, hk, rfl, HBR⟩ := hrel
    have HB := Lib.hid (HB1.out.trans (HBR.out.mono HB1.out.size))
    have hzz := HB1.out.size
    have hzo := HBR.out.size
    by_cases hlt : k < K
    · have hlt' : decide ((k : Int) < K) = true := by simp; omega
      have hlt2 : (k : Int) < K := by omega
      obtain ⟨op, hc, hm⟩ := HX.out k hlt
      obtain ⟨⟨ho1, ho2⟩, hsg⟩ := ops_sigs op hm
      have hc' := (HBR.out.cell (p := ⟨g1, k, none⟩) hgl).trans hc
      clear hc hm
      rcases hsg with hsg | hsg | hsg | hsg
      · have HSG := Lib.hid hsg
        have HL := Lib.hid (show (sigL op).length = 1 by rw [hsg]; rfl)
        clear hsg
        go_wp2_with fail
        refine (RSig_any op _).mono ?_
        rintro e w2 ⟨A2, c2, rfl, hw2, hb2⟩
        rw [HL.out, HSG.out] at hw2
        rw [HL.out]
        obtain ⟨g2, c2', e, hgl2, hge2, _⟩ := own_at hw2 (by omega)
        injection e with e1 e2 e3
        subst e1
        subst e3
        have hl0 : w2.cell? ⟨g2, 0, none⟩ = some (.int .i64 127) := by have := hw2.cells (g := g2) rfl 0 (.int .i64 127) rfl; rwa [Addr.add_lit] at this
        have HB2 := Lib.hid (hb2.mono (Nat.le_trans hzo (Nat.le_refl _)))
        have HBZ2 := Lib.hid (HBR.out.trans (HB2.out.mono (Nat.le_refl _)))
        have hzz2 : w.heap.size ≤ w2.heap.size := Nat.le_trans hzz HBZ2.out.size
        have hg2n : decide ((0 : Int) < 1) = true := by decide
        clear hw2 hb2
        go_wp2_with fail
        rw [HMX.out, HMY.out]
        obtain ⟨E, hE⟩ : ∃ E, evalV op ([((x : Int) % 4294967296).toNat, ((y : Int) % 4294967296).toNat].take 1) = E := ⟨_, rfl⟩
        obtain ⟨v, er⟩ := E
        have HE := Lib.hid hE
        clear hE
        have r1 : (v != v) = false := by simp
        have r2 : (er != er) = false := by simp
        have b3 := Lib.hid (show Below w1.heap.size w1 ((w2.alloc (.cells #[.int .u64 (x : Int), .int .u64 (y : Int)] 23)).alloc (.cells #[.int .u64 ((x : Int) % 4294967296), .int .u64 ((y : Int) % 4294967296)] 23)) from (HBZ2.out.alloc HBZ2.out.size _).alloc (by have := HBZ2.out.size; simp; omega) _)
        have HS := Lib.hid (src_take' (w := w2.alloc (.cells #[.int .u64 (x : Int), .int .u64 (y : Int)] 23)) (N := w2.heap.size + 1) (by simp) ((x : Int) % 4294967296) ((y : Int) % 4294967296) 1 (by omega) (by omega) (by omega))
        have H64 := Lib.hid (show All64 ([((x : Int) % 4294967296).toNat, ((y : Int) % 4294967296).toNat].take 1) from fun z hz => all2 (by omega) (by omega) z (List.mem_of_mem_take hz))
        have HT3 := Lib.hid (HT.out.below (HB1.out.trans (b3.out.mono hzz)) HT.out.2.2)
        refine (Eval_any op _ 1 2 ([((x : Int) % 4294967296).toNat, ((y : Int) % 4294967296).toNat].take 1) _ (by omega) (by omega) HS.out H64.out HT3.out).mono ?_
        rintro e w4 ⟨rfl, hb4⟩
        rw [HE.out]
        have HS4 := Lib.hid (HS.out.below hb4 (Nat.le_refl _))
        have HB4 := Lib.hid (b3.out.trans (hb4.mono b3.out.size))
        clear hb4
        go_wp2_with fail
        refine (reval_any op _ 1 2 ([((x : Int) % 4294967296).toNat, ((y : Int) % 4294967296).toNat].take 1) _ HS4.out H64.out).mono ?_
        rintro e w5 ⟨rfl, hb5⟩
        rw [HE.out]
        have HB5 := Lib.hid (HB4.out.trans (hb5.mono HB4.out.size))
        clear hb5
        go_wp2
        exact ⟨⟨k + 1, by omega, by simp, HB5⟩, by simp [intOf]; omega⟩
      · have HSG := Lib.hid hsg
        have HL := Lib.hid (show (sigL op).length = 1 by rw [hsg]; rfl)
        clear hsg
        go_wp2_with fail
        refine (RSig_any op _).mono ?_
        rintro e w2 ⟨A2, c2, rfl, hw2, hb2⟩
        rw [HL.out, HSG.out] at hw2
        rw [HL.out]
        obtain ⟨g2, c2', e, hgl2, hge2, _⟩ := own_at hw2 (by omega)
        injection e with e1 e2 e3
        subst e1
        subst e3
        have hl0 : w2.cell? ⟨g2, 0, none⟩ = some (.int .i64 126) := by have := hw2.cells (g := g2) rfl 0 (.int .i64 126) rfl; rwa [Addr.add_lit] at this
        have HB2 := Lib.hid (hb2.mono (Nat.le_trans hzo (Nat.le_refl _)))
        have HBZ2 := Lib.hid (HBR.out.trans (HB2.out.mono (Nat.le_refl _)))
        have hzz2 : w.heap.size ≤ w2.heap.size := Nat.le_trans hzz HBZ2.out.size
        have hg2n : decide ((0 : Int) < 1) = true := by decide
        clear hw2 hb2
        go_wp2_with fail
        obtain ⟨E, hE⟩ : ∃ E, evalV op ([x, y].take 1) = E := ⟨_, rfl⟩
        obtain ⟨v, er⟩ := E
        have HE := Lib.hid hE
        clear hE
        have r1 : (v != v) = false := by simp
        have r2 : (er != er) = false := by simp
        have b3 := Lib.hid (show Below w1.heap.size w1 (w2.alloc (.cells #[.int .u64 (x : Int), .int .u64 (y : Int)] 23)) from HBZ2.out.alloc HBZ2.out.size _)
        have HS := Lib.hid (src_take (w := w2) rfl x y 1 (by omega))
        have H64 := Lib.hid (show All64 ([x, y].take 1) from fun z hz => all2 hx hy z (List.mem_of_mem_take hz))
        have HT3 := Lib.hid (HT.out.below (HB1.out.trans (b3.out.mono hzz)) HT.out.2.2)
        refine (Eval_any op _ 1 2 ([x, y].take 1) _ (by omega) (by omega) HS.out H64.out HT3.out).mono ?_
        rintro e w4 ⟨rfl, hb4⟩
        rw [HE.out]
        have HS4 := Lib.hid (HS.out.below hb4 (Nat.le_refl _))
        have HB4 := Lib.hid (b3.out.trans (hb4.mono b3.out.size))
        clear hb4
        go_wp2_with fail
        refine (reval_any op _ 1 2 ([x, y].take 1) _ HS4.out H64.out).mono ?_
        rintro e w5 ⟨rfl, hb5⟩
        rw [HE.out]
        have HB5 := Lib.hid (HB4.out.trans (hb5.mono HB4.out.size))
        clear hb5
        go_wp2
        exact ⟨⟨k + 1, by omega, by simp, HB5⟩, by simp [intOf]; omega⟩
      · have HSG := Lib.hid hsg
        have HL := Lib.hid (show (sigL op).length = 2 by rw [hsg]; rfl)
        clear hsg
        go_wp2_with fail
        refine (RSig_any op _).mono ?_
        rintro e w2 ⟨A2, c2, rfl, hw2, hb2⟩
        rw [HL.out, HSG.out] at hw2
        rw [HL.out]
        obtain ⟨g2, c2', e, hgl2, hge2, _⟩ := own_at hw2 (by omega)
        injection e with e1 e2 e3
        subst e1
        subst e3
        have hl0 : w2.cell? ⟨g2, 0, none⟩ = some (.int .i64 127) := by have := hw2.cells (g := g2) rfl 0 (.int .i64 127) rfl; rwa [Addr.add_lit] at this
        have HB2 := Lib.hid (hb2.mono (Nat.le_trans hzo (Nat.le_refl _)))
        have HBZ2 := Lib.hid (HBR.out.trans (HB2.out.mono (Nat.le_refl _)))
        have hzz2 : w.heap.size ≤ w2.heap.size := Nat.le_trans hzz HBZ2.out.size
        have hg2n : decide ((0 : Int) < 2) = true := by decide
        clear hw2 hb2
        go_wp2_with fail
        rw [HMX.out, HMY.out]
        obtain ⟨E, hE⟩ : ∃ E, evalV op ([((x : Int) % 4294967296).toNat, ((y : Int) % 4294967296).toNat].take 2) = E := ⟨_, rfl⟩
        obtain ⟨v, er⟩ := E
        have HE := Lib.hid hE
        clear hE
        have r1 : (v != v) = false := by simp
        have r2 : (er != er) = false := by simp
        have b3 := Lib.hid (show Below w1.heap.size w1 ((w2.alloc (.cells #[.int .u64 (x : Int), .int .u64 (y : Int)] 23)).alloc (.cells #[.int .u64 ((x : Int) % 4294967296), .int .u64 ((y : Int) % 4294967296)] 23)) from (HBZ2.out.alloc HBZ2.out.size _).alloc (by have := HBZ2.out.size; simp; omega) _)
        have HS := Lib.hid (src_take' (w := w2.alloc (.cells #[.int .u64 (x : Int), .int .u64 (y : Int)] 23)) (N := w2.heap.size + 1) (by simp) ((x : Int) % 4294967296) ((y : Int) % 4294967296) 2 (by omega) (by omega) (by omega))
        have H64 := Lib.hid (show All64 ([((x : Int) % 4294967296).toNat, ((y : Int) % 4294967296).toNat].take 2) from fun z hz => all2 (by omega) (by omega) z (List.mem_of_mem_take hz))
        have HT3 := Lib.hid (HT.out.below (HB1.out.trans (b3.out.mono hzz)) HT.out.2.2)
        refine (Eval_any op _ 2 2 ([((x : Int) % 4294967296).toNat, ((y : Int) % 4294967296).toNat].take 2) _ (by omega) (by omega) HS.out H64.out HT3.out).mono ?_
        rintro e w4 ⟨rfl, hb4⟩
        rw [HE.out]
        have HS4 := Lib.hid (HS.out.below hb4 (Nat.le_refl _))
        have HB4 := Lib.hid (b3.out.trans (hb4.mono b3.out.size))
        clear hb4
        go_wp2_with fail
        refine (reval_any op _ 2 2 ([((x : Int) % 4294967296).toNat, ((y : Int) % 4294967296).toNat].take 2) _ HS4.out H64.out).mono ?_
        rintro e w5 ⟨rfl, hb5⟩
        rw [HE.out]
        have HB5 := Lib.hid (HB4.out.trans (hb5.mono HB4.out.size))
        clear hb5
        go_wp2
        exact ⟨⟨k + 1, by omega, by simp, HB5⟩, by simp [intOf]; omega⟩
      · have HSG := Lib.hid hsg
        have HL := Lib.hid (show (sigL op).length = 2 by rw [hsg]; rfl)
        clear hsg
        go_wp2_with fail
        refine (RSig_any op _).mono ?_
        rintro e w2 ⟨A2, c2, rfl, hw2, hb2⟩
        rw [HL.out, HSG.out] at hw2
        rw [HL.out]
        obtain ⟨g2, c2', e, hgl2, hge2, _⟩ := own_at hw2 (by omega)
        injection e with e1 e2 e3
        subst e1
        subst e3
        have hl0 : w2.cell? ⟨g2, 0, none⟩ = some (.int .i64 126) := by have := hw2.cells (g := g2) rfl 0 (.int .i64 126) rfl; rwa [Addr.add_lit] at this
        have HB2 := Lib.hid (hb2.mono (Nat.le_trans hzo (Nat.le_refl _)))
        have HBZ2 := Lib.hid (HBR.out.trans (HB2.out.mono (Nat.le_refl _)))
        have hzz2 : w.heap.size ≤ w2.heap.size := Nat.le_trans hzz HBZ2.out.size
        have hg2n : decide ((0 : Int) < 2) = true := by decide
        clear hw2 hb2
        go_wp2_with fail
        obtain ⟨E, hE⟩ : ∃ E, evalV op ([x, y].take 2) = E := ⟨_, rfl⟩
        obtain ⟨v, er⟩ := E
        have HE := Lib.hid hE
        clear hE
        have r1 : (v != v) = false := by simp
        have r2 : (er != er) = false := by simp
        have b3 := Lib.hid (show Below w1.heap.size w1 (w2.alloc (.cells #[.int .u64 (x : Int), .int .u64 (y : Int)] 23)) from HBZ2.out.alloc HBZ2.out.size _)
        have HS := Lib.hid (src_take (w := w2) rfl x y 2 (by omega))
        have H64 := Lib.hid (show All64 ([x, y].take 2) from fun z hz => all2 hx hy z (List.mem_of_mem_take hz))
        have HT3 := Lib.hid (HT.out.below (HB1.out.trans (b3.out.mono hzz)) HT.out.2.2)
        refine (Eval_any op _ 2 2 ([x, y].take 2) _ (by omega) (by omega) HS.out H64.out HT3.out).mono ?_
        rintro e w4 ⟨rfl, hb4⟩
        rw [HE.out]
        have HS4 := Lib.hid (HS.out.below hb4 (Nat.le_refl _))
        have HB4 := Lib.hid (b3.out.trans (hb4.mono b3.out.size))
        clear hb4
        go_wp2_with fail
        refine (reval_any op _ 2 2 ([x, y].take 2) _ HS4.out H64.out).mono ?_
        rintro e w5 ⟨rfl, hb5⟩
        rw [HE.out]
        have HB5 := Lib.hid (HB4.out.trans (hb5.mono HB4.out.size))
        clear hb5
        go_wp2
        exact ⟨⟨k + 1, by omega, by simp, HB5⟩, by simp [intOf]; omega⟩
    · have hlt' : decide ((k : Int) < K) = false := by simp; omega
      go_wp2_with fail
      refine (Fits_any 127 x _ hx).mono ?_
      rintro e w2 ⟨rfl, rfl⟩
      rw [HF1.out]
      go_wp2_with fail
      refine (RFits_any 127 x _).mono ?_
      rintro e w2 ⟨rfl, rfl⟩
      rw [HF1.out]
      go_wp2_with fail
      refine (Fits_any 126 y _ hy).mono ?_
      rintro e w2 ⟨rfl, rfl⟩
      rw [HF2.out]
      go_wp2_with fail
      refine (RFits_any 126 y _).mono ?_
      rintro e w2 ⟨rfl, rfl⟩
      rw [HF2.out]
      go_wp2_with fail
      refine (Fits_any _ y _ hy).mono ?_
      rintro e w2 ⟨rfl, rfl⟩
      have h15 := and15 x
      rw [fits_not _ y (by first | exact h15 | (rw [IntWalk.i64_in _ (by omega)]; exact h15) | (unfold wrap64; omega))]
      have HTZ := Lib.hid (HT.out.below HB.out HT.out.2.2)
      clear h15
      go_wp2_with fail
      refine (alive_any _ HTZ.out).mono ?_
      rintro e w9 ⟨rfl, hb9⟩
      have HB9 := Lib.hid (HB.out.trans (hb9.mono HB.out.size))
      clear hb9
      go_wp2
      go_ret
      exact ⟨rfl, HB9.out⟩
end Go.Proofs.YtpfbdaemdghogaaDoor
