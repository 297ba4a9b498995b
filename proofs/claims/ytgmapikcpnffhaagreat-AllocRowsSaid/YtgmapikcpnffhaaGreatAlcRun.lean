/-
 alloc.Run: a row told by its homes, or a refusal.
 Conditions: none.
-/
import Derived.Test.YtgmapikcpnffhaaGreatARu
namespace Go.Proofs.YtgmapikcpnffhaaGreat
open Go.RowKit Go.Bk Go.Bk.Liv
set_option linter.unusedVariables false
set_option linter.unusedSimpArgs false
set_option maxRecDepth 100000 in
set_option maxHeartbeats 16000000 in
theorem run_any (e : EnvD) (r : RowD) (ve vr : Value) (w : World) (he : EnvV w ve e) (hr : RowV w vr r) : Calls Tryz.prog 14 #[ve, vr] w (RuPost e r w) := by
  have HE := Lib.hid he
  have HR := Lib.hid hr
  obtain ⟨va, vb, vd, rfl, h1, h2, h3⟩ := he
  obtain ⟨vp, vq, vpar, vs, rfl, h4, h5, h6, h7⟩ := hr
  have HI4 := Lib.hid h4.ir
  have HI5 := Lib.hid h5.ir
  have HI6 := Lib.hid h6.ir
  have HI7 := Lib.hid h7
  obtain ⟨Ac, cc, hvs, _⟩ := h7.len
  have HVS := Lib.hid hvs
  clear hvs
  clear h1 h2 h3 h4 h5 h6 h7
  have HB0 := Lib.hid ((al2 w (.cells #[va, .int .i64 e.imports, vb, vd, .bool e.mem] 26) (.cells #[vp, vq, .int .i64 r.places, vpar, vs] 31)).alloc (by simp; omega) (.cells #[.slice none 0 0, .slice none 0 0, .int .i64 0, .slice none 0 0, .slice none 0 0] 31))
  have KR0 := Lib.hid (Blk.alloc (Blk.newAt (w.alloc (.cells #[va, .int .i64 e.imports, vb, vd, .bool e.mem] 26)) (N := w.heap.size + 1) 31 #[vp, vq, .int .i64 r.places, vpar, vs] (by simp)) (.cells #[.slice none 0 0, .slice none 0 0, .int .i64 0, .slice none 0 0, .slice none 0 0] 31))
  have KZ0 := Lib.hid (Blk.newAt ((w.alloc (.cells #[va, .int .i64 e.imports, vb, vd, .bool e.mem] 26)).alloc (.cells #[vp, vq, .int .i64 r.places, vpar, vs] 31)) (N := w.heap.size + 1 + 1) 31 #[.slice none 0 0, .slice none 0 0, .int .i64 0, .slice none 0 0, .slice none 0 0] (by simp))
  go_enter Tryz.func14, Tryz.ntmps14
  go_wp2_with fail
  (with_reducible refine (homes_x e r _ _ _ (HE.out.below HB0.out (Nat.le_refl _)) (HR.out.below HB0.out (Nat.le_refl _))).mono ?_)
  rintro en w1 (⟨hnc, rfl, hb1⟩ | ⟨hc, hbig, rfl, hb1⟩ | ⟨hc, P, hs, g, hP, hP2, hRP, rfl, hg, hk, hb1⟩)
  · have KZ1 := KZ0.out.below hb1 KZ0.out.lt
    obtain ⟨z0, z1, z2, z3, z4⟩ := blk5 KZ1
    have f0 := frz KZ1 0
    have f1 := frz KZ1 1
    have f2 := frz KZ1 2
    have f3 := frz KZ1 3
    have f4 := frz KZ1 4
    have y1 := KZ1.lt
    have HB1 := Lib.hid (HB0.out.trans (hb1.mono HB0.out.size))
    have HNC := Lib.hid hnc
    clear hb1 hnc
    go_wp2
    refine bodyPost_ret (v := .tuple #[.agg #[.slice none 0 0, .slice none 0 0, .int .i64 0, .slice none 0 0, .slice none 0 0], .int .i64 6]) (by simp [results, Tryz.results14, go_sem, z0, z1, z2, z3, z4]) rfl ?_
    exact .inl ⟨HNC.out, rfl, below5 HB1.out (by omega) _ _ _ _ _⟩
  · have KZ1 := KZ0.out.below hb1 KZ0.out.lt
    obtain ⟨z0, z1, z2, z3, z4⟩ := blk5 KZ1
    have f0 := frz KZ1 0
    have f1 := frz KZ1 1
    have f2 := frz KZ1 2
    have f3 := frz KZ1 3
    have f4 := frz KZ1 4
    have y1 := KZ1.lt
    have HB1 := Lib.hid (HB0.out.trans (hb1.mono HB0.out.size))
    have HNC := Lib.hid hc
    have HBG := Lib.hid hbig
    clear hb1 hc hbig
    go_wp2
    refine bodyPost_ret (v := .tuple #[.agg #[.slice none 0 0, .slice none 0 0, .int .i64 0, .slice none 0 0, .slice none 0 0], .int .i64 15]) (by simp [results, Tryz.results14, go_sem, z0, z1, z2, z3, z4]) rfl ?_
    exact .inr (.inl ⟨HNC.out, HBG.out, rfl, below5 HB1.out (by omega) _ _ _ _ _⟩)
  · have KR1 := Lib.hid (KR0.out.below hb1 KR0.out.lt)
    have KZ1 := Lib.hid (KZ0.out.below hb1 KZ0.out.lt)
    have HB1 := Lib.hid (HB0.out.trans (hb1.mono HB0.out.size))
    have HC := Lib.hid hc
    have HP := Lib.hid hP
    have HRP := Lib.hid hRP
    have HH1 := Lib.hid (show IR w1 (.slice (some ⟨g, 0, none⟩) P P) hs from IR.of (Blk.srcAll hk (by simp [i64s, hRP.len])) hRP.len)
    have HV4 := Lib.hid (HI4.out.below HB1.out (Nat.le_refl _))
    have HV5 := Lib.hid (HI5.out.below HB1.out (Nat.le_refl _))
    have HV6 := Lib.hid (HI6.out.below HB1.out (Nat.le_refl _))
    have hin := (sig_len hc.sig)
    have hpar := hc.par
    have hp1 : ∀ x ∈ r.params, 0 ≤ x ∧ x < hs.length := fun x hx => by have := within_mem hc.pin hx; have := hRP.len; omega
    have HPR := Lib.hid hp1
    have hl := hRP.len
    have q1 : r.sig.inn.length ≤ 1000000 := by omega
    have q2 : r.sig.out.length ≤ 1000000 := by omega
    have q3 : r.params.length ≤ 100000 := by omega
    have q4 : hs.length ≤ 100000 := by omega
    clear hb1 hc hP hRP hg hk hp1 hin hpar hl
    obtain ⟨r0, r1, r2, r3, r4⟩ := blk5 KR1.out
    have y1 := KR1.out.lt
    obtain ⟨s1, hs1⟩ : ∃ s, w.heap.size + 1 = s := ⟨_, rfl⟩
    rw [hs1] at r0 r1 r2 r3 r4 y1
    have HS1 := Lib.hid hs1
    have CA := Lib.hid (fun w' (hb : Below w1.heap.size w1 w') => Clone_any vp r.sig.inn w' (HV4.out.below hb (Nat.le_refl _)) q1)
    have CB := Lib.hid (fun w' (hb : Below w1.heap.size w1 w') => Clone_any vq r.sig.out w' (HV5.out.below hb (Nat.le_refl _)) q2)
    have CC := Lib.hid (fun w' (hb : Below w1.heap.size w1 w') => told_any vpar (.slice (some ⟨g, 0, none⟩) P P) r.params hs w' (HV6.out.below hb (Nat.le_refl _)) (HH1.out.below hb (Nat.le_refl _)) HPR.out q3 q4)
    go_wp2_with fail
    go_cut [8] (fun f wx => ∃ gb : Nat, f = .pointer (some ⟨gb, 0, none⟩) ∧ Hid (RuB w1 gb r hs 16 (.slice none 0 0) [] wx))
    case first =>
      go_region_held3 (fun w' => w'.cell? ⟨s1, 0, none⟩ = some vp ∧ w'.cell? ⟨s1, 1, none⟩ = some vq ∧ w'.cell? ⟨s1, 3, none⟩ = some vpar ∧ Below w1.heap.size w1 w')
        (first
          | with_reducible exact run_S r0 r1 r3 y1 (drew_below w1)
          | with_reducible exact run_S r0 r1 r3 y1 sA
          | with_reducible exact run_S r0 r1 r3 y1 sB
          | with_reducible exact run_S r0 r1 r3 y1 sC
          | with_reducible exact run_S r0 r1 r3 y1 (below_al (drew_below w1))
          | with_reducible exact run_S r0 r1 r3 y1 (below_al sA)
          | with_reducible exact run_S r0 r1 r3 y1 (below_al sB)
          | with_reducible exact run_S r0 r1 r3 y1 (below_al sC)
          | with_reducible exact run_S r0 r1 r3 y1 (drew_al w1)
          | with_reducible exact run_S r0 r1 r3 y1 (below5 sC (Nat.le_refl _) _ _ _ _ _)
          | with_reducible exact run_S r0 r1 r3 y1 (below5 sC (Below.size sA) _ _ _ _ _)
          | with_reducible exact run_S r0 r1 r3 y1 (below5 sC (Below.size sB) _ _ _ _ _))
        (first
          | (go_at_call_of 40 vp; (with_reducible refine (CA.out _ (run_sB (s1 := s1) (a := vp) (b := vq) (c := vpar) (by with_reducible assumption))).mono ?_); rintro en wA ⟨vA, rfl, hoA, hbA⟩; have oA := Lib.hid (own_mono hoA (Below.size (run_sB (s1 := s1) (a := vp) (b := vq) (c := vpar) (by with_reducible assumption)))); have sA := below_step (run_sB (s1 := s1) (a := vp) (b := vq) (c := vpar) (by with_reducible assumption)) hbA; (try have kz := Lib.hid (box_after hbA)); (try have kz := Lib.hid (box_afterD hbA)); (try have kz := Lib.hid (Blk.below kz.out hbA (Blk.lt kz.out))); obtain ⟨AA, cA, rfl, _⟩ := own_shape hoA)
          | (go_at_call_of 40 vq; (with_reducible refine (CB.out _ (run_sB (s1 := s1) (a := vp) (b := vq) (c := vpar) (by with_reducible assumption))).mono ?_); rintro en wB ⟨vB, rfl, hoB, hbB⟩; have oB := Lib.hid (own_mono hoB (Below.size (run_sB (s1 := s1) (a := vp) (b := vq) (c := vpar) (by with_reducible assumption)))); (first | (have oA := Lib.hid (own_carry1 oA.out hbB)) | (have oA := Lib.hid (own_carry2 oA.out hbB))); have sB := below_step (run_sB (s1 := s1) (a := vp) (b := vq) (c := vpar) (by with_reducible assumption)) hbB; (try have kz := Lib.hid (box_after hbB)); (try have kz := Lib.hid (box_afterD hbB)); (try have kz := Lib.hid (Blk.below kz.out hbB (Blk.lt kz.out))); obtain ⟨AB, cB, rfl, _⟩ := own_shape hoB)
          | (go_at_call 41; (with_reducible refine (CC.out _ (run_sB (s1 := s1) (a := vp) (b := vq) (c := vpar) (by with_reducible assumption))).mono ?_); rintro en wC ⟨vC, rfl, hoC, hbC⟩; have oC := Lib.hid (own_mono hoC (Below.size (run_sB (s1 := s1) (a := vp) (b := vq) (c := vpar) (by with_reducible assumption)))); (first | (have oA := Lib.hid (own_carry1 oA.out hbC)) | (have oA := Lib.hid (own_carry2 oA.out hbC))); (first | (have oB := Lib.hid (own_carry1 oB.out hbC)) | (have oB := Lib.hid (own_carry2 oB.out hbC))); have sC := below_step (run_sB (s1 := s1) (a := vp) (b := vq) (c := vpar) (by with_reducible assumption)) hbC; (try have kz := Lib.hid (box_after hbC)); (try have kz := Lib.hid (box_afterD hbC)); (try have kz := Lib.hid (Blk.below kz.out hbC (Blk.lt kz.out))); (try (obtain ⟨z0, z1, z2, z3, z4⟩ := blk5 kz.out; have f0 := frz kz.out 0; have f1 := frz kz.out 1; have f2 := frz kz.out 2; have f3 := frz kz.out 3; have f4 := frz kz.out 4; have yz := Blk.lt kz.out)); obtain ⟨AC, cC, rfl, _⟩ := own_shape hoC))
      all_goals
        go_wp2_with fail
        go_meet
        first
          | with_reducible exact ⟨_, rfl, Lib.hid (RuB.mk1 oA.out oB.out oC.out sC)⟩
          | with_reducible exact ⟨_, rfl, Lib.hid (RuB.mk2 oA.out oB.out oC.out sC kz.out (Nat.le_refl _))⟩
          | with_reducible exact ⟨_, rfl, Lib.hid (RuB.mk2 oA.out oB.out oC.out sC kz.out (Below.size sA))⟩
          | with_reducible exact ⟨_, rfl, Lib.hid (RuB.mk2 oA.out oB.out oC.out sC kz.out (Below.size sB))⟩
    case rest =>
      as_aux_lemma =>
      obtain ⟨w2, rfl⟩ : ∃ w2 : World, w2 = wc := ⟨_, rfl⟩
      obtain ⟨gb, rfl, HU⟩ := hcut
      have HU0 := Lib.hid (show RuB w1 gb r hs (topFrom 16 (hs.take 0)) (.slice none 0 0) [] w2 from HU.out)
      have HLN := Lib.hid HRP.out.len
      clear r0 r1 r2 r3 r4 CA CB CC HU q1 q2 q3 q4
      go_wp2_with fail
      go_loopw [39] (fun i wr => ∃ k : Nat, k ≤ P ∧ i = .int .i64 k ∧ Hid (RuB w1 gb r hs (topFrom 16 (hs.take k)) (.slice none 0 0) [] wr)) (fun i _ => P - (intOf i).toNat)
      case atStart => exact ⟨0, by omega, rfl, HU0⟩
      case round =>
        clear HU0
        obtain ⟨k, hk, rfl, IU⟩ := hrel
        by_cases hkP : k < P
        · as_aux_lemma =>
          have t1 : decide ((k : Int) < P) = true := by simp; omega
          have t2 : (k : Int) < P := by omega
          obtain ⟨x, hx⟩ : ∃ x, hs[k]? = some x := ⟨_, List.getElem?_eq_getElem (by rw [HLN.out]; exact hkP)⟩
          have hxo := HRP.out.ok x (List.mem_of_getElem? hx)
          obtain ⟨a, b, p, kb, oa, ob, op, oc, hb, hg⟩ := IU.out
          obtain ⟨xb, xo, e1, hxb, hcx⟩ := (HH1.out.below hb (Nat.le_refl _)).cell hx
          injection e1 with e1
          injection e1 with e1 e2
          subst e1
          subst e2
          rw [Nat.zero_add] at hcx
          obtain ⟨zx, rfl⟩ : ∃ z : Nat, x = z := ⟨x.toNat, by omega⟩
          obtain ⟨T, hT⟩ : ∃ T, topFrom 16 (hs.take k) = T := ⟨_, rfl⟩
          have hT2 : topFrom 16 (hs.take (k + 1)) = max T ((zx : Int) + 1) := by
            obtain ⟨h1, h2⟩ := List.getElem?_eq_some_iff.1 hx
            rw [List.take_succ_eq_append_getElem h1, h2, topFrom_snoc, hT]
          rw [hT] at IU kb
          have hz2 : zx < 2048 := by omega
          obtain ⟨zy, hzy⟩ : ∃ z : Nat, zx + 1 = z := ⟨_, rfl⟩
          have w1' : IntKind.i64.wrap ((zx : Int) + 1) = (zy : Int) := by rw [show (zx : Int) + 1 = (zy : Int) by omega]; exact IntWalk.i64_in _ (by omega)
          rw [show (zx : Int) + 1 = (zy : Int) by omega] at hT2
          obtain ⟨d0, d1, d2, d3, d4⟩ := blk5 kb
          have f2 := frz kb 2
          have yb := kb.lt
          have HNX := Lib.hid (IU.out.setT (max T (zy : Int)))
          rw [← hT2] at HNX
          have HT2 := Lib.hid hT2
          clear hx hxo kb oa ob op oc hb hT hT2 IU hzy
          go_wp2_with fail
          exact ⟨⟨k + 1, by omega, by simp, by rw [HT2.out]; rw [HT2.out] at HNX; exact HNX⟩, by simp [intOf]; omega⟩
        · as_aux_lemma =>
          have t1 : decide ((k : Int) < P) = false := by simp; omega
          have hTK : hs.take k = hs := List.take_of_length_le (by rw [HLN.out]; omega)
          rw [hTK] at IU
          obtain ⟨w3, rfl⟩ : ∃ w3 : World, w3 = wr := ⟨_, rfl⟩
          have hvs := HVS.out
          subst hvs
          obtain ⟨n, hn⟩ : ∃ n, r.code.length = n := ⟨_, rfl⟩
          have HN := Lib.hid hn
          have hn4 : n ≤ 4096 := by have := HC.out.n2; omega
          obtain ⟨a, b, p, kb, oa, ob, op, oc, hb, hg⟩ := IU.out
          have KR3 := KR1.out.below hb KR1.out.lt
          rw [hn] at KR3
          obtain ⟨r0, r1, r2, r3, r4⟩ := blk5 KR3
          have y3 := KR3.lt
          rw [hs1] at r0 r1 r2 r3 r4 y3
          have HU0 := Lib.hid (show ∃ d, RuB w1 gb r hs (topOf hs) d ((r.code.take 0).map (toldC hs)) w3 from ⟨_, IU.out⟩)
          clear kb oa ob op oc hb IU hn
          rw [HN.out]
          go_wp2_with fail
          clear r0 r1 r2 r3 r4 y3
          go_loopw [53] (fun i wr => ∃ k : Nat, k ≤ n ∧ i = .int .i64 k ∧ Hid (∃ d, RuB w1 gb r hs (topOf hs) d ((r.code.take k).map (toldC hs)) wr)) (fun i _ => n - (intOf i).toNat)
          case atStart => exact ⟨0, by omega, rfl, HU0⟩
          case round =>
            clear HU0
            obtain ⟨k, hk, rfl, IU⟩ := hrel
            by_cases hkn : k < n
            · as_aux_lemma =>
              have t1 : decide ((k : Int) < n) = true := by simp; omega
              have t2 : (k : Int) < n := by omega
              obtain ⟨c, hc⟩ : ∃ c, r.code[k]? = some c := ⟨_, List.getElem?_eq_getElem (by rw [HN.out]; exact hkn)⟩
              have HCK := Lib.hid hc
              obtain ⟨d, a, b, p, kb, oa, ob, op, oc, hb, hg⟩ := IU.out
              have hBw := HB1.out.trans (hb.mono HB1.out.size)
              obtain ⟨cb, co, vp', vq', vt', rfl, hcb, g0, g1, g2, g3, g4, s0, i1, i2, i3⟩ := HI7.out.code hc
              replace g0 := (hBw.cell (p := ⟨cb, _, none⟩) hcb).trans g0
              replace g1 := (hBw.cell (p := ⟨cb, _, none⟩) hcb).trans g1
              replace g2 := (hBw.cell (p := ⟨cb, _, none⟩) hcb).trans g2
              replace g3 := (hBw.cell (p := ⟨cb, _, none⟩) hcb).trans g3
              replace g4 := (hBw.cell (p := ⟨cb, _, none⟩) hcb).trans g4
              have y2 : cb < wr.heap.size := by have := hBw.size; omega
              obtain ⟨pA, pc, rfl⟩ := i1.shape
              obtain ⟨qA, qc, rfl⟩ := i2.shape
              obtain ⟨tA, tc, rfl⟩ := i3.shape
              have J1 := Lib.hid (i1.ir.below HB1.out (Nat.le_refl _))
              have J2 := Lib.hid (i2.ir.below HB1.out (Nat.le_refl _))
              have J3 := Lib.hid (i3.ir.below HB1.out (Nat.le_refl _))
              have hck := HC.out.code c (List.mem_of_getElem? hc)
              have hpl := codeOk_places hck
              have hal := code_lens HC.out hck
              have HS0 := Lib.hid s0
              have hto : c.to.length ≤ 100 := code_to100 hck
              have hl := HLN.out
              have P1 := Lib.hid (show ∀ x ∈ c.args, 0 ≤ x ∧ x < hs.length from fun x hx => by have := hpl.1 x hx; rw [HP.out] at this; omega)
              have P2 := Lib.hid (show ∀ x ∈ c.outs, 0 ≤ x ∧ x < hs.length from fun x hx => by have := hpl.2.1 x hx; rw [HP.out] at this; omega)
              have q4 : hs.length ≤ 100000 := by omega
              have HBV := Lib.hid hb
              have HKB := Lib.hid kb
              have HOA := Lib.hid oa
              have HOB := Lib.hid ob
              have HOP := Lib.hid op
              have HOC := Lib.hid oc
              obtain ⟨N, hN⟩ : ∃ N, wr.heap.size = N := ⟨_, rfl⟩
              have HNN := Lib.hid hN
              clear hc i1 i2 i3 s0 hck hpl hl kb oa ob op oc hb hBw IU
              have hlC : ((r.code.take k).map (toldC hs)).length = k := by rw [List.length_map, List.length_take, HN.out]; omega
              obtain ⟨C, hC⟩ : ∃ C, (r.code.take k).map (toldC hs) = C := ⟨_, rfl⟩
              rw [hC] at HOC hlC
              have HCl := Lib.hid hlC
              have HTC := Lib.hid (show (r.code.take (k + 1)).map (toldC hs) = C ++ [toldC hs c] from by
                obtain ⟨h1, h2⟩ := List.getElem?_eq_some_iff.1 HCK.out
                rw [List.take_succ_eq_append_getElem h1, h2, List.map_append, hC]
                rfl)
              obtain ⟨xs4, hxs4⟩ := HOC.out.row
              rw [hlC] at hxs4
              obtain ⟨Ad, cd, hd4, _⟩ := own_shape hxs4
              subst hd4
              have HNd := Lib.hid (show ∀ j, (Value.slice Ad k cd).ownBlock = some j → w1.heap.size ≤ j ∧ j ≠ N from fun j hj => by have := hxs4.lt j hj; omega)
              have HRw := Lib.hid (show RuB w1 gb r hs (topOf hs) (.slice Ad k cd) C wr from ⟨a, b, p, HKB.out, HOA.out, HOB.out, HOP.out, HOC.out, HBV.out, hg⟩)
              have ygr := HKB.out.lt
              have hNg : N ≠ gb := by omega
              have hbz := HBV.out.size
              have KNw := Blk.newAt wr (N := N) 48 #[.int .i64 c.op, .int .u64 (c.n : Int), .slice pA c.args.length pc, .slice qA c.outs.length qc, .slice tA c.to.length tc] hN
              obtain ⟨n0, n1, n2, n3, n4⟩ := blk5 KNw
              have hal : Below wr.heap.size wr (wr.alloc (.cells #[.int .i64 c.op, .int .u64 (c.n : Int), .slice pA c.args.length pc, .slice qA c.outs.length qc, .slice tA c.to.length tc] 48)) := (Below.refl _ _).alloc (Nat.le_refl _) _
              have hS0 := (show _ ∧ _ ∧ _ ∧ _ ∧ _ ∧ _ ∧ _ from ⟨n0, n1, n2, n3, n4, KNw.lt, below_step HBV.out hal⟩)
              have HRU := Lib.hid (HRw.out.below hal)
              have c4 : (wr.alloc (.cells #[.int .i64 c.op, .int .u64 (c.n : Int), .slice pA c.args.length pc, .slice qA c.outs.length qc, .slice tA c.to.length tc] 48)).cell? ⟨gb, 4, none⟩ = some (.slice Ad k cd) := by
                obtain ⟨_, _, _, kb, _⟩ := HRU.out
                exact (blk5 kb).2.2.2.2
              have yg : gb < (wr.alloc (.cells #[.int .i64 c.op, .int .u64 (c.n : Int), .slice pA c.args.length pc, .slice qA c.outs.length qc, .slice tA c.to.length tc] 48)).heap.size := Nat.lt_of_lt_of_le ygr hal.size
              clear hxs4 hC hlC hal KNw n0 n1 n2 n3 n4 HKB HOA HOB HOP HOC
              go_wp2_with fail
              obtain ⟨wk, hwk⟩ : ∃ wk, wr.alloc (.cells #[.int .i64 c.op, .int .u64 (c.n : Int), .slice pA c.args.length pc, .slice qA c.outs.length qc, .slice tA c.to.length tc] 48) = wk := ⟨_, rfl⟩
              rw [hwk] at hS0 HRU c4 yg ⊢
              clear hwk g0 g1 g2 g3 g4 y2
              have CA := Lib.hid (fun w' (hb : Below w1.heap.size w1 w') => told_any (.slice pA c.args.length pc) (.slice (some ⟨g, 0, none⟩) P P) c.args hs w' (J1.out.below hb (Nat.le_refl _)) (HH1.out.below hb (Nat.le_refl _)) P1.out (by omega) q4)
              have CB := Lib.hid (fun w' (hb : Below w1.heap.size w1 w') => told_any (.slice qA c.outs.length qc) (.slice (some ⟨g, 0, none⟩) P P) c.outs hs w' (J2.out.below hb (Nat.le_refl _)) (HH1.out.below hb (Nat.le_refl _)) P2.out (by omega) q4)
              have CT := Lib.hid (fun w' (hb : Below w1.heap.size w1 w') => Clone_any (.slice tA c.to.length tc) c.to w' (J3.out.below hb (Nat.le_refl _)) (by omega))
              obtain ⟨ic, hic, hz0, hz1, hz2⟩ := info_parts info_codeA
              have HRU := Lib.hid (RuB.below HRU.out (drew_below wk))
              have hBK := drew_below wk
              have hS1 := sN_drew hS0
              have c4 := (hBK.cell (p := ⟨gb, 4, none⟩) yg).trans c4
              have yg := Nat.lt_of_lt_of_le yg hBK.size
              refine wp_region_D (fun w' => w'.cell? ⟨N, 0, none⟩ = some (.int .i64 c.op) ∧ w'.cell? ⟨N, 1, none⟩ = some (.int .u64 (c.n : Int)) ∧ w'.cell? ⟨N, 2, none⟩ = some (.slice pA c.args.length pc) ∧ w'.cell? ⟨N, 3, none⟩ = some (.slice qA c.outs.length qc) ∧ w'.cell? ⟨N, 4, none⟩ = some (.slice tA c.to.length tc) ∧ N < w'.heap.size ∧ Below w1.heap.size w1 w') (fun w' => w'.cell? ⟨gb, 4, none⟩ = some (.slice Ad k cd)) 19 (by kernel_rfl) hS1 c4 (fun hD => ?_)
              refine wpAnyD_take (i := 0) (v := ?v0) rfl (by kernel_rfl) (by kernel_rfl) (by kernel_rfl) (fun _ _ _ h => h) rfl (Or.inl ⟨by rfl, ?hy0⟩) hD (fun hD => ?_)
              case hy0 => intro w hSw; (try dsimp only at hSw); go_simp; (try with_reducible rfl)
              try simp only [Act.put, List.setIfInBounds_toArray, List.set_cons_zero, List.set_cons_succ]
              refine wpAnyD_take2 (i := 1) (v := ?v1) rfl (by kernel_rfl) (by kernel_rfl) (by kernel_rfl) (fun _ _ _ h => h) rfl (by kernel_rfl) (by kernel_rfl) (Or.inl ⟨by rfl, ?hy1⟩) hD (fun hD => ?_)
              case hy1 => intro w hSw; (try dsimp only at hSw); go_simp; (try with_reducible rfl)
              try simp only [Act.put, List.setIfInBounds_toArray, List.set_cons_zero, List.set_cons_succ]
              refine wpAnyD_take (i := 2) (v := ?v2) rfl (by kernel_rfl) (by kernel_rfl) (by kernel_rfl) (fun _ _ _ h => h) rfl (Or.inl ⟨by rfl, ?hy2⟩) hD (fun hD => ?_)
              case hy2 => intro w hSw; (try dsimp only at hSw); go_simp; (try with_reducible rfl)
              try simp only [Act.put, List.setIfInBounds_toArray, List.set_cons_zero, List.set_cons_succ]
              refine wpAnyD_take (i := 3) (v := ?v3) rfl (by kernel_rfl) (by kernel_rfl) (by kernel_rfl) (fun _ _ _ h => h) rfl (Or.inl ⟨by rfl, ?hy3⟩) hD (fun hD => ?_)
              case hy3 => intro w hSw; (try dsimp only at hSw); go_simp; (try with_reducible rfl)
              try simp only [Act.put, List.setIfInBounds_toArray, List.set_cons_zero, List.set_cons_succ]
              refine wpAnyD_take (i := 4) (v := ?v4) rfl (by kernel_rfl) (by kernel_rfl) (by kernel_rfl) (fun _ _ _ h => h) rfl (Or.inl ⟨by rfl, ?hy4⟩) hD (fun hD => ?_)
              case hy4 => intro w hSw; (try dsimp only at hSw); go_simp; (try with_reducible rfl)
              try simp only [Act.put, List.setIfInBounds_toArray, List.set_cons_zero, List.set_cons_succ]
              refine wpAnyD_take (i := 5) (v := ?v5) rfl (by kernel_rfl) (by kernel_rfl) (by kernel_rfl) (fun _ _ _ h => h) rfl (Or.inl ⟨by rfl, ?hy5⟩) hD (fun hD => ?_)
              case hy5 => intro w hSw; (try dsimp only at hSw); go_simp; (try with_reducible rfl)
              try simp only [Act.put, List.setIfInBounds_toArray, List.set_cons_zero, List.set_cons_succ]
              refine wpAnyD_take (i := 6) (v := ?v6) rfl (by kernel_rfl) (by kernel_rfl) (by kernel_rfl) (fun _ _ _ h => h) rfl (Or.inl ⟨by rfl, ?hy6⟩) hD (fun hD => ?_)
              case hy6 => intro w hSw; (try dsimp only at hSw); go_simp; (try with_reducible rfl)
              try simp only [Act.put, List.setIfInBounds_toArray, List.set_cons_zero, List.set_cons_succ]
              refine wpAnyD_take (i := 7) (v := ?v7) rfl (by kernel_rfl) (by kernel_rfl) (by kernel_rfl) (fun _ _ _ h => h) rfl (Or.inl ⟨by rfl, ?hy7⟩) hD (fun hD => ?_)
              case hy7 => intro w hSw; (try dsimp only at hSw); go_simp; (try with_reducible rfl)
              try simp only [Act.put, List.setIfInBounds_toArray, List.set_cons_zero, List.set_cons_succ]
              refine wpAnyD_take (i := 8) (v := ?v8) rfl (by kernel_rfl) (by kernel_rfl) (by kernel_rfl) (fun _ _ _ h => h) rfl (Or.inl ⟨by rfl, ?hy8⟩) hD (fun hD => ?_)
              case hy8 => intro w hSw; (try dsimp only at hSw); go_simp; (try with_reducible rfl)
              try simp only [Act.put, List.setIfInBounds_toArray, List.set_cons_zero, List.set_cons_succ]
              refine wpAnyD_take (i := 10) (v := ?v10) rfl (by kernel_rfl) (by kernel_rfl) (by kernel_rfl) (fun _ _ _ h => h) rfl (Or.inl ⟨by rfl, ?hy10⟩) hD (fun hD => ?_)
              case hy10 => intro w hSw; (try dsimp only at hSw); go_simp; (try with_reducible rfl)
              try simp only [Act.put, List.setIfInBounds_toArray, List.set_cons_zero, List.set_cons_succ]
              refine wpAnyD_take (i := 11) (v := ?v11) rfl (by kernel_rfl) (by kernel_rfl) (by kernel_rfl) (fun _ _ _ h => h) rfl (Or.inl ⟨by rfl, ?hy11⟩) hD (fun hD => ?_)
              case hy11 => intro w hSw; (try dsimp only at hSw); go_simp; (try with_reducible rfl)
              try simp only [Act.put, List.setIfInBounds_toArray, List.set_cons_zero, List.set_cons_succ]
              refine wpAnyD_take (i := 12) (v := ?v12) rfl (by kernel_rfl) (by kernel_rfl) (by kernel_rfl) (fun _ _ _ h => h) rfl (Or.inl ⟨by rfl, ?hy12⟩) hD (fun hD => ?_)
              case hy12 => intro w hSw; (try dsimp only at hSw); go_simp; (try with_reducible rfl)
              try simp only [Act.put, List.setIfInBounds_toArray, List.set_cons_zero, List.set_cons_succ]
              refine wpAnyD_take (i := 14) (v := ?v14) rfl (by kernel_rfl) (by kernel_rfl) (by kernel_rfl) (fun _ _ _ h => h) rfl (Or.inl ⟨by rfl, ?hy14⟩) hD (fun hD => ?_)
              case hy14 => intro w hSw; (try dsimp only at hSw); go_simp; (try with_reducible rfl)
              try simp only [Act.put, List.setIfInBounds_toArray, List.set_cons_zero, List.set_cons_succ]
              refine wpAnyD_take (i := 15) (v := ?v15) rfl (by kernel_rfl) (by kernel_rfl) (by kernel_rfl) (fun _ _ _ h => h) rfl (Or.inl ⟨by rfl, ?hy15⟩) hD (fun hD => ?_)
              case hy15 => intro w hSw; (try dsimp only at hSw); go_simp; (try with_reducible rfl)
              try simp only [Act.put, List.setIfInBounds_toArray, List.set_cons_zero, List.set_cons_succ]
              refine wpAnyD_one (i := 9) (by kernel_rfl) rfl (fun K hK => ?_)
              go_simp
              (with_reducible refine (CA.out _ (sN_below hS1)).mono ?_)
              rintro en wA ⟨vA, rfl, hoA, hbA⟩
              have oA := Lib.hid (own_mono hoA (Below.size (sN_below hS1)))
              have sA := sN_call hS1 hbA
              have c4 := (hbA.cell (p := ⟨gb, 4, none⟩) yg).trans c4
              have yg := Nat.lt_of_lt_of_le yg hbA.size
              have HRU := Lib.hid (RuB.below HRU.out hbA)
              obtain ⟨AA, cA, rfl, _⟩ := own_shape hoA
              refine hK.out _ _ ⟨sA, fun _ => c4⟩ (fun hD => ?_)
              clear hK K
              try simp only [Act.put, List.setIfInBounds_toArray, List.set_cons_zero, List.set_cons_succ]
              refine wpAnyD_one (i := 13) (by kernel_rfl) rfl (fun K hK => ?_)
              go_simp
              (with_reducible refine (CB.out _ (sN_below sA)).mono ?_)
              rintro en wB ⟨vB, rfl, hoB, hbB⟩
              have oB := Lib.hid (own_mono hoB (Below.size (sN_below sA)))
              have sB := sN_call sA hbB
              have c4 := (hbB.cell (p := ⟨gb, 4, none⟩) yg).trans c4
              have yg := Nat.lt_of_lt_of_le yg hbB.size
              have HRU := Lib.hid (RuB.below HRU.out hbB)
              have oA := Lib.hid (own_carry1 oA.out hbB)
              obtain ⟨AB, cB, rfl, _⟩ := own_shape hoB
              refine hK.out _ _ ⟨sB, fun _ => c4⟩ (fun hD => ?_)
              clear hK K
              try simp only [Act.put, List.setIfInBounds_toArray, List.set_cons_zero, List.set_cons_succ]
              refine wpAnyD_one (i := 16) (by kernel_rfl) rfl (fun K hK => ?_)
              go_simp
              (with_reducible refine (CT.out _ (sN_below sB)).mono ?_)
              rintro en wT ⟨vT, rfl, hoT, hbT⟩
              have oT := Lib.hid (own_mono hoT (Below.size (sN_below sB)))
              have sT := sN_call sB hbT
              have c4 := (hbT.cell (p := ⟨gb, 4, none⟩) yg).trans c4
              have yg := Nat.lt_of_lt_of_le yg hbT.size
              have HRU := Lib.hid (RuB.below HRU.out hbT)
              have oA := Lib.hid (own_carry1 oA.out hbT)
              have oB := Lib.hid (own_carry1 oB.out hbT)
              obtain ⟨AT, cT, rfl, _⟩ := own_shape hoT
              refine hK.out _ _ ⟨sT, fun _ => c4⟩ (fun hD => ?_)
              clear hK K
              try simp only [Act.put, List.setIfInBounds_toArray, List.set_cons_zero, List.set_cons_succ]
              refine wpAnyD_take (i := 17) (v := ?v17) rfl (by kernel_rfl) (by kernel_rfl) (by kernel_rfl) (fun _ _ _ h => h) rfl (Or.inl ⟨by rfl, ?hy17⟩) hD (fun hD => ?_)
              case hy17 => intro w hSw; (try dsimp only at hSw); go_simp; (try with_reducible rfl)
              try simp only [Act.put, List.setIfInBounds_toArray, List.set_cons_zero, List.set_cons_succ]
              refine wpAnyD_one (i := 18) (by kernel_rfl) rfl (fun K hK => ?_)
              go_simp
              have sN := sN_alloc (o := .cells #[.int .i64 c.op, .int .u64 (c.n : Int), .slice AA c.args.length cA, .slice AB c.outs.length cB, .slice AT c.to.length cT] 48) sT
              have hal := (Below.refl wT.heap.size wT).alloc (Nat.le_refl _) (.cells #[.int .i64 c.op, .int .u64 (c.n : Int), .slice AA c.args.length cA, .slice AB c.outs.length cB, .slice AT c.to.length cT] 48)
              have c4 := (hal.cell (p := ⟨gb, 4, none⟩) yg).trans c4
              refine hK.out _ _ ⟨sN, fun _ => c4⟩ (fun hD => ?_)
              clear hK K
              try simp only [Act.put, List.setIfInBounds_toArray, List.set_cons_zero, List.set_cons_succ]
              obtain ⟨a9, b9, p9, kb9, oa9, ob9, op9, ⟨vs9, ho9, hv9, hc9⟩, hb9, hg9⟩ := RuB.below HRU.out hal
              have ho8 := ho9
              rw [HCl.out] at ho8
              refine wpAnyD_one (i := 19) (by kernel_rfl) rfl (fun K hK => ?_)
              refine step_append_lies _ (by rfl) (.tmp 58) (.tmp 75) 29 (by rfl) w1.heap.size 48 ic _ 5 88 Tryz.underlying29 hic hz0 hz1 hz2 (by rfl) (by omega) (.slice Ad k cd) k vs9.flatten (by go_simp) ho8 ⟨wT.heap.size, 0, none⟩ 1 1 [.int .i64 c.op, .int .u64 (c.n : Int), .slice AA c.args.length cA, .slice AB c.outs.length cB, .slice AT c.to.length cT] (by go_simp) (by rfl) (World.news_of_block (cs := #[.int .i64 c.op, .int .u64 (c.n : Int), .slice AA c.args.length cA, .slice AB c.outs.length cB, .slice AT c.to.length cT]) (t := 48) (fr := (0, 0)) (Blk.newAt _ _ _ rfl)) (one5 _ _ _ _ _ rfl rfl rfl rfl rfl) (by omega) (by unfold maxLen; omega) (by omega) hb9.size _ rfl ?_
              intro gg cap w9 hown hgr hat hlt
              have kbx := kb9.grown hgr (own_ne ho9 kb9 (by decide))
              obtain ⟨_, _, _, _, d4⟩ := blk5 kbx
              have f4 := frz kbx 4
              have y9 := kbx.lt
              have sD := sN_grown sN hgr (fun j hj => HNd.out j hj)
              have HCO := code_told HS0.out oA.out oB.out oT.out (Blk.new wT 48 #[.int .i64 c.op, .int .u64 (c.n : Int), .slice AA c.args.length cA, .slice AB c.outs.length cB, .slice AT c.to.length cT])
              have HFN := Lib.hid (RuB.push (n := k) kb9 oa9 ob9 op9 ho9 hv9 hc9 hb9 hg9 HCO (by rw [HCl.out]; exact hown) hgr)
              clear hown hgr hat kbx kb9 oa9 ob9 op9 ho9 ho8 hv9 hc9 HCO
              refine hK.out _ _ (SD.after sD (by kernel_rfl)) (fun hD => ?_)
              clear hK K
              try simp only [Act.put, List.setIfInBounds_toArray, List.set_cons_zero, List.set_cons_succ]
              refine wpAnyD_take (i := 20) (v := ?v20) rfl (by kernel_rfl) (by kernel_rfl) (by kernel_rfl) (fun _ _ _ h => h) rfl (Or.inl ⟨by rfl, ?hy20⟩) hD (fun hD => ?_)
              case hy20 => intro w hSw; (try dsimp only at hSw); go_simp; (try with_reducible rfl)
              try simp only [Act.put, List.setIfInBounds_toArray, List.set_cons_zero, List.set_cons_succ]
              refine wpAnyD_one (i := 21) (by kernel_rfl) rfl (fun K hK => ?_)
              go_simp
              refine hK.out _ _ (SD.after (sN_set sD hNg hg) (by kernel_rfl)) (fun hD => ?_)
              clear hK K
              try simp only [Act.put, List.setIfInBounds_toArray, List.set_cons_zero, List.set_cons_succ]
              refine wpAnyD_done (by kernel_rfl) ?_ _
              go_wp2_with fail
              with_reducible exact ⟨⟨k + 1, by omega, by simp, Lib.hid ⟨_, by rw [HTC.out]; exact HFN.out⟩⟩, by simp [intOf]; omega⟩
            · as_aux_lemma =>
              have t1 : decide ((k : Int) < n) = false := by simp; omega
              have hTK2 : r.code.take k = r.code := List.take_of_length_le (by rw [HN.out]; omega)
              rw [hTK2] at IU
              obtain ⟨d, a, b, p, kb, oa, ob, op, oc, hb, hg⟩ := IU.out
              have hcd := oc.row
              obtain ⟨A1, c1, rfl, _⟩ := own_shape oa
              obtain ⟨A2, c2, rfl, _⟩ := own_shape ob
              obtain ⟨A3, c3, rfl, _⟩ := own_shape op
              obtain ⟨xs4, hxs4⟩ := hcd
              obtain ⟨A4, c4, hd4, _⟩ := own_shape hxs4
              rw [List.length_map] at hd4
              subst hd4
              obtain ⟨d0, d1, d2, d3, d4⟩ := blk5 kb
              have yb := kb.lt
              have KZr := KZ1.out.below hb KZ1.out.lt
              have hbz := hb.size
              have HFA := Lib.hid (own_mono (own5 oa KZr (.slice A1 r.sig.inn.length c1) (.slice A2 r.sig.out.length c2) (.int .i64 (topOf hs)) (.slice A3 r.params.length c3) (.slice A4 r.code.length c4)) HB1.out.size)
              have HFB := Lib.hid (own_mono (own5 ob KZr (.slice A1 r.sig.inn.length c1) (.slice A2 r.sig.out.length c2) (.int .i64 (topOf hs)) (.slice A3 r.params.length c3) (.slice A4 r.code.length c4)) HB1.out.size)
              have HFP := Lib.hid (own_mono (own5 op KZr (.slice A1 r.sig.inn.length c1) (.slice A2 r.sig.out.length c2) (.int .i64 (topOf hs)) (.slice A3 r.params.length c3) (.slice A4 r.code.length c4)) HB1.out.size)
              have HFC := Lib.hid ((oc.other5 KZr (.slice A1 r.sig.inn.length c1) (.slice A2 r.sig.out.length c2) (.int .i64 (topOf hs)) (.slice A3 r.params.length c3) (.slice A4 r.code.length c4)).mono HB1.out.size)
              have HFW := Lib.hid (below5 (HB1.out.trans (hb.mono HB1.out.size)) (show w.heap.size ≤ w.heap.size + 1 + 1 by omega) (.slice A1 r.sig.inn.length c1) (.slice A2 r.sig.out.length c2) (.int .i64 (topOf hs)) (.slice A3 r.params.length c3) (.slice A4 r.code.length c4))
              rw [show w.heap.size + 1 + 1 = s1 + 1 by rw [HS1.out]] at KZr HFA HFB HFP HFC HFW
              obtain ⟨z0, z1, z2, z3, z4⟩ := blk5 KZr
              have f0 := frz KZr 0
              have f1 := frz KZr 1
              have f2 := frz KZr 2
              have f3 := frz KZr 3
              have f4 := frz KZr 4
              have yz := KZr.lt
              have HKF := Lib.hid (blk_set5 KZr (.slice A1 r.sig.inn.length c1) (.slice A2 r.sig.out.length c2) (.int .i64 (topOf hs)) (.slice A3 r.params.length c3) (.slice A4 r.code.length c4))
              clear kb oa ob op oc hb IU hxs4 KZr hbz
              go_wp2_with fail
              refine bodyPost_ret (run_results _ _ (s1 + 1) _ _ _ _ _ _ rfl rfl HKF.out) rfl ?_
              exact .inr (.inr ⟨HC.out, P, hs, _, _, _, _, HP.out, hP2, HRP.out, rfl, HFA.out, HFB.out, HFP.out, HFC.out, HFW.out⟩)
end Go.Proofs.YtgmapikcpnffhaaGreat
