/-
  AllocTold: a row is told by just the homes that Homes tells, and may be.
  Conditions: none.
-/
import Derived.Test.YtgmapikcpnffhaaGreatAlcTw0
import Derived.Test.YtgmapikcpnffhaaGreatAlcSm
import Derived.Test.YtgmapikcpnffhaaGreatAlcAl
namespace Go.Proofs.YtgmapikcpnffhaaGreat
open Go.RowKit Go.Bk Go.Bk.Liv
set_option linter.unusedVariables false
set_option linter.unusedSimpArgs false
set_option maxRecDepth 100000 in
set_option maxHeartbeats 16000000 in
theorem AllocTold_walk (e : EnvD) (r : RowD) (ve vr : Value) (w : World) (he : EnvV w ve e) (hr : RowV w vr r) : Calls Tryz.prog 4 #[ve, vr] w (LawPost w) := by
  have HE := Lib.hid he
  have HR := Lib.hid hr
  obtain ⟨va, vb, vd, rfl, h1, h2, h3⟩ := he
  obtain ⟨vp, vq, vpar, vs, rfl, h4, h5, h6, h7⟩ := hr
  clear h1 h2 h3 h4 h5 h6 h7
  have HB0 := Lib.hid (al2 w (.cells #[va, .int .i64 e.imports, vb, vd, .bool e.mem] 26) (.cells #[vp, vq, .int .i64 r.places, vpar, vs] 31))
  have KE0 := Lib.hid (Blk.alloc (Blk.new w 26 #[va, .int .i64 e.imports, vb, vd, .bool e.mem]) (.cells #[vp, vq, .int .i64 r.places, vpar, vs] 31))
  have KR0 := Lib.hid (Blk.newAt (w.alloc (.cells #[va, .int .i64 e.imports, vb, vd, .bool e.mem] 26)) (N := w.heap.size + 1) 31 #[vp, vq, .int .i64 r.places, vpar, vs] (by simp))
  go_enter Tryz.func4, Tryz.ntmps4
  go_wp2_with fail
  (with_reducible refine (homes_x e r _ _ _ (HE.out.below HB0.out (Nat.le_refl _)) (HR.out.below HB0.out (Nat.le_refl _))).mono ?_)
  rintro en w1 (⟨hnc, rfl, hb1⟩ | ⟨hc, hbig, rfl, hb1⟩ | ⟨hc, P, hs, g, hP, hP2, hRP, rfl, hg, hk, hb1⟩)
  all_goals
    have HB1 := Lib.hid (HB0.out.trans (hb1.mono HB0.out.size))
    have KE1 := KE0.out.below hb1 KE0.out.lt
    have KR1 := KR0.out.below hb1 KR0.out.lt
    have HKE := Lib.hid KE1
    have HKR := Lib.hid KR1
    obtain ⟨r0, r1, r2, r3, r4⟩ := blk5 KR1
    obtain ⟨s0, s1, s2, s3, s4⟩ := blk5 KE1
    have y1 := KR1.lt
    have y2 := KE1.lt
    clear hb1 KE1 KR1
  · have HNC := Lib.hid hnc
    clear hnc
    go_wp2_with fail
    (with_reducible refine (run_any e r _ _ _ (HE.out.below HB1.out (Nat.le_refl _)) (HR.out.below HB1.out (Nat.le_refl _))).mono ?_)
    rintro en w2 (⟨_, rfl, hb2⟩ | ⟨hc, _⟩ | ⟨hc, _⟩)
    · have HB2 := Lib.hid ((HB1.out.trans (hb2.mono HB1.out.size)).alloc (HB1.out.trans (hb2.mono HB1.out.size)).size (.cells #[.slice none 0 0, .slice none 0 0, .int .i64 0, .slice none 0 0, .slice none 0 0] 31))
      clear hb2 r0 r1 r2 r3 r4 s0 s1 s2 s3 s4 y1 y2
      go_wp2_with fail
      refine (alive_any _).mono ?_
      rintro en w3 ⟨rfl, hb⟩
      have HB3 := Lib.hid (HB2.out.trans (hb.mono HB2.out.size))
      clear hb
      go_wp2
      go_ret
      exact ⟨rfl, HB3.out⟩
    · exact absurd hc HNC.out
    · exact absurd hc HNC.out
  · have HC := Lib.hid hc
    have HBG := Lib.hid hbig
    clear hc hbig
    go_wp2_with fail
    (with_reducible refine (run_any e r _ _ _ (HE.out.below HB1.out (Nat.le_refl _)) (HR.out.below HB1.out (Nat.le_refl _))).mono ?_)
    rintro en w2 (⟨hn, _⟩ | ⟨_, _, rfl, hb2⟩ | ⟨_, P, _, _, _, _, _, hP, hle, _⟩)
    · exact absurd HC.out hn
    · have HB2 := Lib.hid ((HB1.out.trans (hb2.mono HB1.out.size)).alloc (HB1.out.trans (hb2.mono HB1.out.size)).size (.cells #[.slice none 0 0, .slice none 0 0, .int .i64 0, .slice none 0 0, .slice none 0 0] 31))
      clear hb2 r0 r1 r2 r3 r4 s0 s1 s2 s3 s4 y1 y2
      go_wp2_with fail
      refine (alive_any _).mono ?_
      rintro en w3 ⟨rfl, hb⟩
      have HB3 := Lib.hid (HB2.out.trans (hb.mono HB2.out.size))
      clear hb
      go_wp2
      go_ret
      exact ⟨rfl, HB3.out⟩
    · have := HBG.out; omega
  · have HC := Lib.hid hc
    have HP := Lib.hid hP
    have HRP := Lib.hid hRP
    have HH1 := Lib.hid (show IR w1 (.slice (some ⟨g, 0, none⟩) P P) hs from IR.of (Blk.srcAll hk (by simp [i64s, hRP.len])) hRP.len)
    clear hc hP hRP hk hg
    go_wp2_with fail
    (with_reducible refine (run_any e r _ _ _ (HE.out.below HB1.out (Nat.le_refl _)) (HR.out.below HB1.out (Nat.le_refl _))).mono ?_)
    rintro en w2 (⟨hn, _⟩ | ⟨_, hbig, _⟩ | ⟨_, P', hs', a, b, p, d, hP', hP2', hRP', rfl, oa, ob, op, oc, hb2⟩)
    · exact absurd HC.out hn
    · have := HP.out; omega
    have hPP : P = P' := by have := HP.out; omega
    subst hPP
    have hhh : hs = hs' := HRP.out.hr.one hRP'.hr
    subst hhh
    obtain ⟨G0, hG0⟩ : ∃ T, topOf hs = T := ⟨_, rfl⟩
    have HG1 := rowV_run HC.out oa ob op oc
    obtain ⟨A1, c1, rfl, _⟩ := own_shape oa
    obtain ⟨A2, c2, rfl, _⟩ := own_shape ob
    obtain ⟨A3, c3, rfl, _⟩ := own_shape op
    obtain ⟨A4, c4, rfl⟩ := oc.len
    rw [hG0] at HG1 ⊢
    have hln : (r.code.map (toldC hs)).length = r.code.length := by simp
    rw [hln] at HG1 ⊢
    have HB1b := HB1.out.trans (hb2.mono HB1.out.size)
    have hal : Below w2.heap.size w2 (w2.alloc (.cells #[.slice A1 r.sig.inn.length c1, .slice A2 r.sig.out.length c2, .int .i64 G0, .slice A3 r.params.length c3, .slice A4 r.code.length c4] 31)) := (Below.refl _ _).alloc (Nat.le_refl _) _
    have KG := Blk.new w2 31 #[.slice A1 r.sig.inn.length c1, .slice A2 r.sig.out.length c2, .int .i64 G0, .slice A3 r.params.length c3, .slice A4 r.code.length c4]
    have hbk := hb2.trans (hal.mono hb2.size)
    have HG2 := Lib.hid (HG1.below hal (Nat.le_refl _))
    have HB2 := Lib.hid (HB1.out.trans (hbk.mono HB1.out.size))
    have HE2 := Lib.hid (HE.out.below HB2.out (Nat.le_refl _))
    have HR2 := Lib.hid (HR.out.below HB2.out (Nat.le_refl _))
    have HH2 := Lib.hid (HH1.out.below hbk (Nat.le_refl _))
    have KE2 := HKE.out.below hbk HKE.out.lt
    have KR2 := HKR.out.below hbk HKR.out.lt
    have HLS := Lib.hid (row_lens HC.out)
    have HHO := Lib.hid (show ∀ h ∈ hs, 0 ≤ h ∧ h < 10000 from fun h hh => by have := HRP.out.ok h hh; omega)
    have HPI := Lib.hid (show ∀ x ∈ r.params, 0 ≤ x ∧ x < hs.length from fun x hx => by have h1 := within_mem HC.out.pin hx; have := HRP.out.len; have := HP.out; omega)
    have HCI := Lib.hid (show ∀ c ∈ r.code, (∀ x ∈ c.args, 0 ≤ x ∧ x < hs.length) ∧ (∀ x ∈ c.outs, 0 ≤ x ∧ x < hs.length) ∧ c.args.length ≤ 100 ∧ c.outs.length ≤ 100 ∧ c.to.length ≤ 100 from fun c hcm => by
      have h1 := codeOk_places (HC.out.code c hcm)
      have h2 := HRP.out.len
      have h3 := HP.out
      exact ⟨fun x hx => by have := h1.1 x hx; omega, fun x hx => by have := h1.2.1 x hx; omega, (row_lens HC.out).2.2.2.2 c hcm⟩)
    clear oa ob op oc hb2 hRP' hP' HG1 HB1b hal hbk hln HH1 HKE HKR hG0 r0 r1 r2 r3 r4 s0 s1 s2 s3 s4 y1 y2
    obtain ⟨r0, r1, r2, r3, r4⟩ := blk5 KR2
    obtain ⟨s0, s1, s2, s3, s4⟩ := blk5 KE2
    obtain ⟨t0, t1, t2, t3, t4⟩ := blk5 KG
    have y1 := KR2.lt
    have y2 := KE2.lt
    have y3 := KG.lt
    obtain ⟨wk, hwk⟩ : ∃ wk, w2.alloc (.cells #[.slice A1 r.sig.inn.length c1, .slice A2 r.sig.out.length c2, .int .i64 G0, .slice A3 r.params.length c3, .slice A4 r.code.length c4] 31) = wk := ⟨_, rfl⟩
    have HSC := Lib.hid (show ∀ w', Below wk.heap.size wk w' → _ ∧ _ ∧ _ ∧ _ ∧ _ ∧ _ ∧ _ ∧ _ ∧ _ ∧ _ ∧ _ ∧ _ ∧ _ ∧ _ ∧ _ from fun w' hb' => by
      rw [hwk] at r0 r1 r2 r3 r4 s0 s1 s2 s3 s4 t0 t1 t2 t3 t4 y1 y2 y3
      exact ⟨(hb'.cell (p := ⟨w.heap.size, _, none⟩) y2).trans s0, (hb'.cell (p := ⟨w.heap.size, _, none⟩) y2).trans s1, (hb'.cell (p := ⟨w.heap.size, _, none⟩) y2).trans s2, (hb'.cell (p := ⟨w.heap.size, _, none⟩) y2).trans s3, (hb'.cell (p := ⟨w.heap.size, _, none⟩) y2).trans s4, (hb'.cell (p := ⟨w.heap.size + 1, _, none⟩) y1).trans r0, (hb'.cell (p := ⟨w.heap.size + 1, _, none⟩) y1).trans r1, (hb'.cell (p := ⟨w.heap.size + 1, _, none⟩) y1).trans r2, (hb'.cell (p := ⟨w.heap.size + 1, _, none⟩) y1).trans r3, (hb'.cell (p := ⟨w.heap.size + 1, _, none⟩) y1).trans r4, (hb'.cell (p := ⟨w2.heap.size, _, none⟩) y3).trans t0, (hb'.cell (p := ⟨w2.heap.size, _, none⟩) y3).trans t1, (hb'.cell (p := ⟨w2.heap.size, _, none⟩) y3).trans t2, (hb'.cell (p := ⟨w2.heap.size, _, none⟩) y3).trans t3, (hb'.cell (p := ⟨w2.heap.size, _, none⟩) y3).trans t4⟩)
    clear r0 r1 r2 r3 r4 s0 s1 s2 s3 s4 t0 t1 t2 t3 t4 y1 y2 y3 KE2 KR2 KG
    rw [hwk] at HB2 HE2 HR2 HH2 HG2
    go_wp2_with fail
    (try rw [hwk])
    clear hwk
    refine wp_region_D (fun w' => Below wk.heap.size wk w') (fun _ => True) 19 (by kernel_rfl) (drew_below wk) trivial (fun hD => ?_)
    have HBd := Lib.hid (drew_below wk)
    refine wpAnyD_take (i := 0) (v := ?v0) rfl (by kernel_rfl) (by kernel_rfl) (by kernel_rfl) (fun _ _ _ h => h) rfl (Or.inl ⟨by rfl, ?hy0⟩) hD (fun hD => ?_)
    case hy0 => intro w hSw; obtain ⟨e0, e1, e2, e3, e4, q0, q1, q2, q3, q4, g0, g1, g2, g3, g4⟩ := HSC.out w hSw; go_simp; (try with_reducible rfl)
    try simp only [Act.put, List.setIfInBounds_toArray, List.set_cons_zero, List.set_cons_succ]
    refine wpAnyD_take (i := 1) (v := ?v1) rfl (by kernel_rfl) (by kernel_rfl) (by kernel_rfl) (fun _ _ _ h => h) rfl (Or.inl ⟨by rfl, ?hy1⟩) hD (fun hD => ?_)
    case hy1 => intro w hSw; obtain ⟨e0, e1, e2, e3, e4, q0, q1, q2, q3, q4, g0, g1, g2, g3, g4⟩ := HSC.out w hSw; go_simp; (try with_reducible rfl)
    try simp only [Act.put, List.setIfInBounds_toArray, List.set_cons_zero, List.set_cons_succ]
    refine wpAnyD_take (i := 2) (v := ?v2) rfl (by kernel_rfl) (by kernel_rfl) (by kernel_rfl) (fun _ _ _ h => h) rfl (Or.inl ⟨by rfl, ?hy2⟩) hD (fun hD => ?_)
    case hy2 => intro w hSw; obtain ⟨e0, e1, e2, e3, e4, q0, q1, q2, q3, q4, g0, g1, g2, g3, g4⟩ := HSC.out w hSw; go_simp; (try with_reducible rfl)
    try simp only [Act.put, List.setIfInBounds_toArray, List.set_cons_zero, List.set_cons_succ]
    refine wpAnyD_one (i := 3) (by kernel_rfl) rfl (fun K hK => ?_)
    go_simp
    (with_reducible refine (right_any e r _ _ _ hs P _ (HE2.out.below HBd.out (Nat.le_refl _)) (HR2.out.below HBd.out (Nat.le_refl _)) HC.out HP.out hP2 HRP.out.toRightP (HH2.out.below HBd.out (Nat.le_refl _))).mono ?_)
    rintro en wA ⟨rfl, hb⟩
    have HBA := Lib.hid (HBd.out.trans (hb.mono HBd.out.size))
    clear hb
    refine hK.out _ _ ⟨HBA.out, fun _ => trivial⟩ (fun hD => ?_)
    clear hK K
    try simp only [Act.put, List.setIfInBounds_toArray, List.set_cons_zero, List.set_cons_succ]
    refine wpAnyD_take (i := 4) (v := ?v4) rfl (by kernel_rfl) (by kernel_rfl) (by kernel_rfl) (fun _ _ _ h => h) rfl (Or.inl ⟨by rfl, ?hy4⟩) hD (fun hD => ?_)
    case hy4 => intro w hSw; obtain ⟨e0, e1, e2, e3, e4, q0, q1, q2, q3, q4, g0, g1, g2, g3, g4⟩ := HSC.out w hSw; go_simp; (try with_reducible rfl)
    try simp only [Act.put, List.setIfInBounds_toArray, List.set_cons_zero, List.set_cons_succ]
    refine wpAnyD_take (i := 5) (v := ?v5) rfl (by kernel_rfl) (by kernel_rfl) (by kernel_rfl) (fun _ _ _ h => h) rfl (Or.inl ⟨by rfl, ?hy5⟩) hD (fun hD => ?_)
    case hy5 => intro w hSw; obtain ⟨e0, e1, e2, e3, e4, q0, q1, q2, q3, q4, g0, g1, g2, g3, g4⟩ := HSC.out w hSw; go_simp; (try with_reducible rfl)
    try simp only [Act.put, List.setIfInBounds_toArray, List.set_cons_zero, List.set_cons_succ]
    refine wpAnyD_take (i := 6) (v := ?v6) rfl (by kernel_rfl) (by kernel_rfl) (by kernel_rfl) (fun _ _ _ h => h) rfl (Or.inl ⟨by rfl, ?hy6⟩) hD (fun hD => ?_)
    case hy6 => intro w hSw; obtain ⟨e0, e1, e2, e3, e4, q0, q1, q2, q3, q4, g0, g1, g2, g3, g4⟩ := HSC.out w hSw; go_simp; (try with_reducible rfl)
    try simp only [Act.put, List.setIfInBounds_toArray, List.set_cons_zero, List.set_cons_succ]
    refine wpAnyD_take (i := 7) (v := ?v7) rfl (by kernel_rfl) (by kernel_rfl) (by kernel_rfl) (fun _ _ _ h => h) rfl (Or.inl ⟨by rfl, ?hy7⟩) hD (fun hD => ?_)
    case hy7 => intro w hSw; obtain ⟨e0, e1, e2, e3, e4, q0, q1, q2, q3, q4, g0, g1, g2, g3, g4⟩ := HSC.out w hSw; go_simp; (try with_reducible rfl)
    try simp only [Act.put, List.setIfInBounds_toArray, List.set_cons_zero, List.set_cons_succ]
    have HR3 := Lib.hid (HR2.out.below HBA.out (Nat.le_refl _))
    refine wpAnyD_one (i := 8) (by kernel_rfl) rfl (fun K hK => ?_)
    go_simp
    (with_reducible refine (rtold_any r hs P _ _ _ _ _ _ HR3.out (HH2.out.below HBA.out (Nat.le_refl _)) HRP.out.len (by omega) HHO.out HLS.out.2.2.2.1 (by have := HLS.out; omega) HPI.out HCI.out).mono ?_)
    rintro en wB ⟨pT, dT, rfl, oT, cT, hb⟩
    have HT := Lib.hid (rowV_told HC.out HR3.out hb oT cT)
    obtain ⟨AT, ctT, rfl, _⟩ := own_shape oT
    obtain ⟨vsT, rT⟩ := cT.row
    obtain ⟨BT, cdT, hdT, _⟩ := own_shape rT
    rw [List.length_map] at hdT
    subst hdT
    clear oT cT rT
    have HBB := Lib.hid (HBA.out.trans (hb.mono HBA.out.size))
    clear hb
    refine hK.out _ _ ⟨HBB.out, fun _ => trivial⟩ (fun hD => ?_)
    clear hK K
    try simp only [Act.put, List.setIfInBounds_toArray, List.set_cons_zero, List.set_cons_succ]
    refine wpAnyD_one (i := 9) (by kernel_rfl) rfl (fun K hK => ?_)
    go_simp
    (with_reducible refine (same_row (toldR r hs) _ _ _ (HG2.out.below HBB.out (Nat.le_refl _)) HT.out (told_sm HC.out).1 (told_sm HC.out).2.1 (told_sm HC.out).2.2).mono ?_)
    rintro en wC ⟨rfl, hb⟩
    have HBC := Lib.hid (HBB.out.trans (hb.mono HBB.out.size))
    clear hb
    refine hK.out _ _ ⟨HBC.out, fun _ => trivial⟩ (fun hD => ?_)
    clear hK K
    try simp only [Act.put, List.setIfInBounds_toArray, List.set_cons_zero, List.set_cons_succ]
    refine wpAnyD_take (i := 10) (v := ?v10) rfl (by kernel_rfl) (by kernel_rfl) (by kernel_rfl) (fun _ _ _ h => h) rfl (Or.inl ⟨by rfl, ?hy10⟩) hD (fun hD => ?_)
    case hy10 => intro w hSw; obtain ⟨e0, e1, e2, e3, e4, q0, q1, q2, q3, q4, g0, g1, g2, g3, g4⟩ := HSC.out w hSw; go_simp; (try with_reducible rfl)
    try simp only [Act.put, List.setIfInBounds_toArray, List.set_cons_zero, List.set_cons_succ]
    refine wpAnyD_take (i := 11) (v := ?v11) rfl (by kernel_rfl) (by kernel_rfl) (by kernel_rfl) (fun _ _ _ h => h) rfl (Or.inl ⟨by rfl, ?hy11⟩) hD (fun hD => ?_)
    case hy11 => intro w hSw; obtain ⟨e0, e1, e2, e3, e4, q0, q1, q2, q3, q4, g0, g1, g2, g3, g4⟩ := HSC.out w hSw; go_simp; (try with_reducible rfl)
    try simp only [Act.put, List.setIfInBounds_toArray, List.set_cons_zero, List.set_cons_succ]
    refine wpAnyD_take (i := 12) (v := ?v12) rfl (by kernel_rfl) (by kernel_rfl) (by kernel_rfl) (fun _ _ _ h => h) rfl (Or.inl ⟨by rfl, ?hy12⟩) hD (fun hD => ?_)
    case hy12 => intro w hSw; obtain ⟨e0, e1, e2, e3, e4, q0, q1, q2, q3, q4, g0, g1, g2, g3, g4⟩ := HSC.out w hSw; go_simp; (try with_reducible rfl)
    try simp only [Act.put, List.setIfInBounds_toArray, List.set_cons_zero, List.set_cons_succ]
    refine wpAnyD_take (i := 13) (v := ?v13) rfl (by kernel_rfl) (by kernel_rfl) (by kernel_rfl) (fun _ _ _ h => h) rfl (Or.inl ⟨by rfl, ?hy13⟩) hD (fun hD => ?_)
    case hy13 => intro w hSw; obtain ⟨e0, e1, e2, e3, e4, q0, q1, q2, q3, q4, g0, g1, g2, g3, g4⟩ := HSC.out w hSw; go_simp; (try with_reducible rfl)
    try simp only [Act.put, List.setIfInBounds_toArray, List.set_cons_zero, List.set_cons_succ]
    refine wpAnyD_one (i := 14) (by kernel_rfl) rfl (fun K hK => ?_)
    go_simp
    (with_reducible refine (rcheck_any e (toldR r hs) _ _ _ (HE2.out.below HBC.out (Nat.le_refl _)) (HG2.out.below HBC.out (Nat.le_refl _))).mono ?_)
    rintro en wE ⟨bb, rfl, hbb, hb⟩
    have hbt : bb = true := hbb.2 (told_check HC.out HP.out hP2 HRP.out.toRightP)
    subst hbt
    clear hbb
    have HBE := Lib.hid (HBC.out.trans (hb.mono HBC.out.size))
    clear hb
    refine hK.out _ _ ⟨HBE.out, fun _ => trivial⟩ (fun hD => ?_)
    clear hK K
    try simp only [Act.put, List.setIfInBounds_toArray, List.set_cons_zero, List.set_cons_succ]
    refine wpAnyD_take (i := 15) (v := ?v15) rfl (by kernel_rfl) (by kernel_rfl) (by kernel_rfl) (fun _ _ _ h => h) rfl (Or.inl ⟨by rfl, ?hy15⟩) hD (fun hD => ?_)
    case hy15 => intro w hSw; obtain ⟨e0, e1, e2, e3, e4, q0, q1, q2, q3, q4, g0, g1, g2, g3, g4⟩ := HSC.out w hSw; go_simp; (try with_reducible rfl)
    try simp only [Act.put, List.setIfInBounds_toArray, List.set_cons_zero, List.set_cons_succ]
    refine wpAnyD_take (i := 16) (v := ?v16) rfl (by kernel_rfl) (by kernel_rfl) (by kernel_rfl) (fun _ _ _ h => h) rfl (Or.inl ⟨by rfl, ?hy16⟩) hD (fun hD => ?_)
    case hy16 => intro w hSw; obtain ⟨e0, e1, e2, e3, e4, q0, q1, q2, q3, q4, g0, g1, g2, g3, g4⟩ := HSC.out w hSw; go_simp; (try with_reducible rfl)
    try simp only [Act.put, List.setIfInBounds_toArray, List.set_cons_zero, List.set_cons_succ]
    refine wpAnyD_one (i := 17) (by kernel_rfl) rfl (fun K hK => ?_)
    go_simp
    (with_reducible refine (alive_any _).mono ?_)
    rintro en wF ⟨rfl, hb⟩
    have HBF := Lib.hid (HBE.out.trans (hb.mono HBE.out.size))
    clear hb
    refine hK.out _ _ ⟨HBF.out, fun _ => trivial⟩ (fun hD => ?_)
    clear hK K
    try simp only [Act.put, List.setIfInBounds_toArray, List.set_cons_zero, List.set_cons_succ]
    refine wpAnyD_take (i := 18) (v := ?v18) rfl (by kernel_rfl) (by kernel_rfl) (by kernel_rfl) (fun _ _ _ h => h) rfl (Or.inl ⟨by rfl, ?hy18⟩) hD (fun hD => ?_)
    case hy18 => intro w hSw; obtain ⟨e0, e1, e2, e3, e4, q0, q1, q2, q3, q4, g0, g1, g2, g3, g4⟩ := HSC.out w hSw; go_simp; (try with_reducible rfl)
    try simp only [Act.put, List.setIfInBounds_toArray, List.set_cons_zero, List.set_cons_succ]
    refine wpAnyD_one (i := 19) (by kernel_rfl) rfl (fun K hK => ?_)
    go_simp
    refine hK.out _ _ ⟨HBF.out, fun _ => trivial⟩ (fun hD => ?_)
    clear hK K
    try simp only [Act.put, List.setIfInBounds_toArray, List.set_cons_zero, List.set_cons_succ]
    refine wpAnyD_done (by kernel_rfl) ?_ _
    have HBX := Lib.hid (HB2.out.trans (HBF.out.mono HB2.out.size))
    clear hD HSC
    go_wp2_with fail
    go_ret
    exact ⟨rfl, HBX.out⟩
end Go.Proofs.YtgmapikcpnffhaaGreat
