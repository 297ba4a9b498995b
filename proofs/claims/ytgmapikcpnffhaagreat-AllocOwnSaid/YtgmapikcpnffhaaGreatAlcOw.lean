/-
 AllocOwn: rows are not turned, and what was answered may be written over.
 Conditions: none.
-/
import Derived.Test.YtgmapikcpnffhaaGreatAlcOw0
import Derived.Test.YtgmapikcpnffhaaGreatAlcSm
import Derived.Test.YtgmapikcpnffhaaGreatAlcAl
namespace Go.Proofs.YtgmapikcpnffhaaGreat
open Go.RowKit Go.Bk Go.Bk.Liv
set_option linter.unusedVariables false
set_option linter.unusedSimpArgs false
set_option maxRecDepth 100000 in
set_option maxHeartbeats 16000000 in
theorem AllocOwn_walk (e : EnvD) (r : RowD) (u ur : Value) (w : World) (he : EnvV w u e) (hr : RowV w ur r) : Calls Tryz.prog 7 #[u, ur] w (LawPost w) := by
 have HE := Lib.hid he
 have HR := Lib.hid hr
 obtain ⟨va, vb, vd, rfl, h1, h2, h3⟩ := he
 obtain ⟨vp, vq, vpar, vs, rfl, h4, h5, h6, h7⟩ := hr
 obtain ⟨vA, vc, rfl⟩ := h4.shape
 obtain ⟨vB, ve, rfl⟩ := h5.shape
 clear h1 h2 h3 h4 h5 h6 h7
 have HB0 := Lib.hid (al2 w (.cells #[va, .int .i64 e.imports, vb, vd, .bool e.mem] 26) (.cells #[.slice vA r.sig.inn.length vc, .slice vB r.sig.out.length ve, .int .i64 r.places, vpar, vs] 31))
 have KE0 := Lib.hid (Blk.alloc (Blk.new w 26 #[va, .int .i64 e.imports, vb, vd, .bool e.mem]) (.cells #[.slice vA r.sig.inn.length vc, .slice vB r.sig.out.length ve, .int .i64 r.places, vpar, vs] 31))
 have KR0 := Lib.hid (Blk.newAt (w.alloc (.cells #[va, .int .i64 e.imports, vb, vd, .bool e.mem] 26)) (N := w.heap.size + 1) 31 #[.slice vA r.sig.inn.length vc, .slice vB r.sig.out.length ve, .int .i64 r.places, vpar, vs] (by simp))
 have HPV := Lib.hid (row_parts HR.out)
 obtain ⟨sz, hsz⟩ : ∃ s, w.heap.size = s := ⟨_, rfl⟩
 have HSZ := Lib.hid hsz
 go_enter Tryz.func7, Tryz.ntmps7
 go_wp2_with fail
 (with_reducible refine (rcheck_any e r _ _ _ (HE.out.below HB0.out (Nat.le_refl _)) (HR.out.below HB0.out (Nat.le_refl _))).mono ?_)
 rintro en w1 ⟨bb, rfl, hbb, hb1⟩
 have HB1 := Lib.hid (HB0.out.trans (hb1.mono HB0.out.size))
 have KE1 := Lib.hid (KE0.out.below hb1 KE0.out.lt)
 have KR1 := Lib.hid (KR0.out.below hb1 KR0.out.lt)
 rw [hsz] at KE1 KR1
 clear hb1 HB0 KE0 KR0 hsz
 cases bb
 ·clear hbb
  go_wp2_with fail
  refine (alive_any _).mono ?_
  rintro en w3 ⟨rfl, hb⟩
  have HB3 := Lib.hid (HB1.out.trans (hb.mono HB1.out.size))
  clear hb
  go_wp2
  go_ret
  exact ⟨rfl, HB3.out⟩
 have hc := hbb.1 rfl
 have HC := Lib.hid hc
 obtain ⟨P, hP⟩ : ∃ P : Nat, r.places = P := ⟨r.places.toNat, by have := hc.p1; omega⟩
 have HP := Lib.hid hP
 have HPL := Lib.hid (show P ≤ 4096 by have := hc.p2; omega)
 have HTI := Lib.hid (told_ids hc hP)
 have HLS := Lib.hid (row_lens hc)
 have CT := Lib.hid (fun (w' : World) (g : Nat) (hb : Below w.heap.size w w') (hk : Blk w' g 3 (i64s (idL P)).toArray) => rtold_at w r (idL P) P _ _ vpar vs (.slice (some ⟨g, 0, none⟩) P P) w' HR.out hb (IR.of (Blk.srcAll hk (by simp [i64s, idL_len])) (idL_len P)) (idL_len P) HPL.out (idL_ok P HPL.out) HLS.out.2.2.2.1 (by have := HLS.out; omega) HTI.out.1 HTI.out.2)
 have HY := Lib.hid (show sz + 1 < w1.heap.size ∧ sz < w1.heap.size from ⟨KR1.out.lt, KE1.out.lt⟩)
 obtain ⟨r0, r1, r2, r3, r4⟩ := blk5 KR1.out
 have y1 := HY.out.1
 obtain ⟨s0, s1, s2, s3, s4⟩ := blk5 KE1.out
 have y2 := HY.out.2
 have HSE := Lib.hid (show ∀ w', Below w1.heap.size w1 w' → _ ∧ _ ∧ _ ∧ _ ∧ _ from fun w' hb' => ⟨(hb'.cell (p := ⟨sz, _, none⟩) y2).trans s0, (hb'.cell (p := ⟨sz, _, none⟩) y2).trans s1, (hb'.cell (p := ⟨sz, _, none⟩) y2).trans s2, (hb'.cell (p := ⟨sz, _, none⟩) y2).trans s3, (hb'.cell (p := ⟨sz, _, none⟩) y2).trans s4⟩)
 have HSR := Lib.hid (show ∀ w', Below w1.heap.size w1 w' → _ ∧ _ ∧ _ ∧ _ ∧ _ from fun w' hb' => ⟨(hb'.cell (p := ⟨sz + 1, _, none⟩) y1).trans r0, (hb'.cell (p := ⟨sz + 1, _, none⟩) y1).trans r1, (hb'.cell (p := ⟨sz + 1, _, none⟩) y1).trans r2, (hb'.cell (p := ⟨sz + 1, _, none⟩) y1).trans r3, (hb'.cell (p := ⟨sz + 1, _, none⟩) y1).trans r4⟩)
 clear hbb hc hP r0 r1 r2 r3 r4 y1 s0 s1 s2 s3 s4 y2 KE1 KR1
 go_wp2_with fail
 go_cut [5] (fun f wx => ∃ gb : Nat, f = .pointer (some ⟨gb, 0, none⟩) ∧ Hid (WasP w w1 gb (.slice vA r.sig.inn.length vc) (.slice vB r.sig.out.length ve) r (idL P) wx))
 case first =>
  as_aux_lemma =>
  refine wp_region_D (fun w' => Below w1.heap.size w1 w') (fun _ => True) 6 (by kernel_rfl) (drew_below w1) trivial (fun hD => ?_)
  have HBd := Lib.hid (drew_below w1)
  refine wpAnyD_take (i := 0) (v := ?vs50) rfl (by kernel_rfl) (by kernel_rfl) (by kernel_rfl) (fun _ _ _ h => h) rfl (Or.inl ⟨by rfl, ?hys50⟩) hD (fun hD => ?_)
  case hys50 => intro wT hSw; obtain ⟨r0, r1, r2, r3, r4⟩ := HSR.out _ hSw; go_simp; (try with_reducible rfl)
  try simp only [Act.put, List.setIfInBounds_toArray, List.set_cons_zero, List.set_cons_succ]
  refine wpAnyD_take (i := 1) (v := ?vs51) rfl (by kernel_rfl) (by kernel_rfl) (by kernel_rfl) (fun _ _ _ h => h) rfl (Or.inl ⟨by rfl, ?hys51⟩) hD (fun hD => ?_)
  case hys51 => intro wT hSw; obtain ⟨r0, r1, r2, r3, r4⟩ := HSR.out _ hSw; go_simp; (try with_reducible rfl)
  try simp only [Act.put, List.setIfInBounds_toArray, List.set_cons_zero, List.set_cons_succ]
  refine wpAnyD_take (i := 2) (v := ?vs52) rfl (by kernel_rfl) (by kernel_rfl) (by kernel_rfl) (fun _ _ _ h => h) rfl (Or.inl ⟨by rfl, ?hys52⟩) hD (fun hD => ?_)
  case hys52 => intro wT hSw; obtain ⟨r0, r1, r2, r3, r4⟩ := HSR.out _ hSw; go_simp; (try with_reducible rfl)
  try simp only [Act.put, List.setIfInBounds_toArray, List.set_cons_zero, List.set_cons_succ]
  refine wpAnyD_two (i := 3) (j := 5) (by kernel_rfl) rfl rfl (fun K hK => ?_) (fun K hK => ?_)
  ·as_aux_lemma =>
   go_simp
   (with_reducible refine (itself_at _ P _ HP.out (by have := HPL.out; omega)).mono ?_)
   rintro en wA ⟨g, rfl, hg, hk, hb⟩
   have HK := Lib.hid hk
   have HBA := Lib.hid (HBd.out.trans (hb.mono HBd.out.size))
   clear hb hk
   refine hK.out _ _ ⟨HBA.out, fun _ => trivial⟩ (fun hD => ?_)
   clear hK K
   try simp only [Act.put, List.setIfInBounds_toArray, List.set_cons_zero, List.set_cons_succ]
   refine wpAnyD_two (i := 4) (j := 5) (by kernel_rfl) rfl rfl (fun K hK => ?_) (fun K hK => ?_)
   ·as_aux_lemma =>
    go_simp
    (with_reducible refine (CT.out _ _ (HB1.out.trans (HBA.out.mono HB1.out.size)) HK.out).mono ?_)
    rintro en wB ⟨p, d, rfl, op, oc, hb⟩
    have OP := Lib.hid op
    have OC := Lib.hid oc
    have HBB := Lib.hid hb
    obtain ⟨Ap, cp, rfl, _⟩ := own_shape op
    obtain ⟨xsd, hxd⟩ := oc.row
    rw [List.length_map] at hxd
    obtain ⟨Ad, cd, rfl, _⟩ := own_shape hxd
    clear op oc hb hxd
    refine hK.out _ _ ⟨below_step HBA.out HBB.out, fun _ => trivial⟩ (fun hD => ?_)
    clear hK K
    try simp only [Act.put, List.setIfInBounds_toArray, List.set_cons_zero, List.set_cons_succ]
    refine wpAnyD_one (i := 5) (by kernel_rfl) rfl (fun K hK => ?_)
    go_simp
    refine hK.out _ _ ⟨below_al (below_step HBA.out HBB.out), fun _ => trivial⟩ (fun hD => ?_)
    clear hK K
    try simp only [Act.put, List.setIfInBounds_toArray, List.set_cons_zero, List.set_cons_succ]
    refine wpAnyD_one (i := 6) (by kernel_rfl) rfl (fun K hK => ?_)
    go_simp
    refine hK.out _ _ ⟨below_al (below_step HBA.out HBB.out), fun _ => trivial⟩ (fun hD => ?_)
    clear hK K
    try simp only [Act.put, List.setIfInBounds_toArray, List.set_cons_zero, List.set_cons_succ]
    refine wpAnyD_done (by kernel_rfl) ?_ _
    go_wp2_with fail
    go_meet
    with_reducible exact ⟨_, rfl, Lib.hid (WasP.mk1 HBA.out OP.out OC.out HBB.out)⟩
   ·as_aux_lemma =>
    go_simp
    refine hK.out _ _ ⟨below_al HBA.out, fun _ => trivial⟩ (fun hD => ?_)
    clear hK K
    try simp only [Act.put, List.setIfInBounds_toArray, List.set_cons_zero, List.set_cons_succ]
    refine wpAnyD_one (i := 4) (by kernel_rfl) rfl (fun K hK => ?_)
    go_simp
    (with_reducible refine (CT.out _ _ (HB1.out.trans ((below_al HBA.out).mono HB1.out.size)) (Blk.alloc HK.out _)).mono ?_)
    rintro en wB ⟨p, d, rfl, op, oc, hb⟩
    have OP := Lib.hid op
    have OC := Lib.hid oc
    have HBB := Lib.hid hb
    obtain ⟨Ap, cp, rfl, _⟩ := own_shape op
    obtain ⟨xsd, hxd⟩ := oc.row
    rw [List.length_map] at hxd
    obtain ⟨Ad, cd, rfl, _⟩ := own_shape hxd
    have kz := Lib.hid (box_after hb)
    clear op oc hb hxd
    refine hK.out _ _ ⟨below_step (below_al HBA.out) HBB.out, fun _ => trivial⟩ (fun hD => ?_)
    clear hK K
    try simp only [Act.put, List.setIfInBounds_toArray, List.set_cons_zero, List.set_cons_succ]
    obtain ⟨z0, z1, z2, z3, z4⟩ := blk5 kz.out
    have f0 := frz kz.out 0
    have f1 := frz kz.out 1
    have f2 := frz kz.out 2
    have f3 := frz kz.out 3
    have f4 := frz kz.out 4
    have yz := Blk.lt kz.out
    refine wpAnyD_one (i := 6) (by kernel_rfl) rfl (fun K hK => ?_)
    go_simp
    refine hK.out _ _ ⟨below5 (below_step (below_al HBA.out) HBB.out) HBA.out.size _ _ _ _ _, fun _ => trivial⟩ (fun hD => ?_)
    clear hK K
    try simp only [Act.put, List.setIfInBounds_toArray, List.set_cons_zero, List.set_cons_succ]
    refine wpAnyD_done (by kernel_rfl) ?_ _
    go_wp2_with fail
    go_meet
    with_reducible exact ⟨_, rfl, Lib.hid (WasP.mk2 (below_al HBA.out) OP.out OC.out HBB.out kz.out HBA.out.size)⟩
  ·as_aux_lemma =>
   go_simp
   refine hK.out _ _ ⟨drew_al w1, fun _ => trivial⟩ (fun hD => ?_)
   clear hK K
   try simp only [Act.put, List.setIfInBounds_toArray, List.set_cons_zero, List.set_cons_succ]
   refine wpAnyD_one (i := 3) (by kernel_rfl) rfl (fun K hK => ?_)
   go_simp
   (with_reducible refine (itself_at _ P _ HP.out (by have := HPL.out; omega)).mono ?_)
   rintro en wA ⟨g, rfl, hg, hk, hb⟩
   have HK := Lib.hid hk
   have HBA := Lib.hid (below_step (drew_al w1) hb)
   have KZ := Lib.hid (box_afterD hb)
   clear hb hk
   refine hK.out _ _ ⟨HBA.out, fun _ => trivial⟩ (fun hD => ?_)
   clear hK K
   try simp only [Act.put, List.setIfInBounds_toArray, List.set_cons_zero, List.set_cons_succ]
   refine wpAnyD_one (i := 4) (by kernel_rfl) rfl (fun K hK => ?_)
   go_simp
   (with_reducible refine (CT.out _ _ (HB1.out.trans (HBA.out.mono HB1.out.size)) HK.out).mono ?_)
   rintro en wB ⟨p, d, rfl, op, oc, hb⟩
   have OP := Lib.hid op
   have OC := Lib.hid oc
   have HBB := Lib.hid hb
   obtain ⟨Ap, cp, rfl, _⟩ := own_shape op
   obtain ⟨xsd, hxd⟩ := oc.row
   rw [List.length_map] at hxd
   obtain ⟨Ad, cd, rfl, _⟩ := own_shape hxd
   have kz := Lib.hid (KZ.out.below hb KZ.out.lt)
   clear op oc hb hxd
   refine hK.out _ _ ⟨below_step HBA.out HBB.out, fun _ => trivial⟩ (fun hD => ?_)
   clear hK K
   try simp only [Act.put, List.setIfInBounds_toArray, List.set_cons_zero, List.set_cons_succ]
   obtain ⟨z0, z1, z2, z3, z4⟩ := blk5 kz.out
   have f0 := frz kz.out 0
   have f1 := frz kz.out 1
   have f2 := frz kz.out 2
   have f3 := frz kz.out 3
   have f4 := frz kz.out 4
   have yz := Blk.lt kz.out
   refine wpAnyD_one (i := 6) (by kernel_rfl) rfl (fun K hK => ?_)
   go_simp
   refine hK.out _ _ ⟨below5 (below_step HBA.out HBB.out) (Nat.le_refl _) _ _ _ _ _, fun _ => trivial⟩ (fun hD => ?_)
   clear hK K
   try simp only [Act.put, List.setIfInBounds_toArray, List.set_cons_zero, List.set_cons_succ]
   refine wpAnyD_done (by kernel_rfl) ?_ _
   go_wp2_with fail
   go_meet
   with_reducible exact ⟨_, rfl, Lib.hid (WasP.mk2 HBA.out OP.out OC.out HBB.out kz.out (Nat.le_refl _))⟩
 case rest =>
  as_aux_lemma =>
  obtain ⟨w2, rfl⟩ : ∃ w2 : World, w2 = wc := ⟨_, rfl⟩
  obtain ⟨gb, rfl, HU⟩ := hcut
  obtain ⟨p, d, kb, hg, op, oc, hb⟩ := HU.out
  obtain ⟨n, hn⟩ : ∃ n, r.code.length = n := ⟨_, rfl⟩
  have HN := Lib.hid hn
  have HNL := Lib.hid (show n ≤ 4096 by have := HLS.out; omega)
  have hlC : (r.code.map (toldC (idL P))).length = n := by rw [List.length_map, hn]
  have HLC := Lib.hid hlC
  obtain ⟨xs4, hxs4⟩ := oc.row
  rw [hlC] at hxs4
  obtain ⟨Ad, cd, rfl, _⟩ := own_shape hxs4
  have HX0 := Lib.hid (show WasX w w1 gb (.slice vA r.sig.inn.length vc) (.slice vB r.sig.out.length ve) r (idL P) p (.slice Ad n cd) 0 w2 from ⟨kb, hg, op, CodesX.of oc, hb⟩)
  obtain ⟨d0, d1, d2, d3, d4⟩ := blk5 kb
  have yb := kb.lt
  clear kb op oc hb HU hxs4 hn hlC
  go_wp2_with fail
  go_loopw [31] (fun i wr => ∃ k : Nat, k ≤ n ∧ i = .int .i64 k ∧ Hid (WasX w w1 gb (.slice vA r.sig.inn.length vc) (.slice vB r.sig.out.length ve) r (idL P) p (.slice Ad n cd) k wr)) (fun i _ => n - (intOf i).toNat)
  case atStart => exact ⟨0, by omega, rfl, HX0⟩
  case round =>
   clear HX0 d0 d1 d2 d3 d4 yb
   obtain ⟨k, hk, rfl, IU⟩ := hrel
   by_cases hkn : k < n
   ·as_aux_lemma =>
    have hNL := HNL.out
    have t1 : decide ((k : Int) < n) = true := by simp; omega
    have t2 : (k : Int) < n := by omega
    obtain ⟨c, hc⟩ : ∃ c, r.code[k]? = some c := ⟨_, List.getElem?_eq_getElem (by rw [HN.out]; exact hkn)⟩
    have HCK := Lib.hid hc
    obtain ⟨kb, hg, op, oc, hb⟩ := IU.out
    obtain ⟨g, cap, b, e1, hbg, hgl, hcell, hi⟩ := oc.read (c := toldC (idL P) c) (by rw [List.getElem?_map, hc]; rfl)
    injection e1 with e1 e2 e3
    clear e2
    subst e1
    subst e3
    rw [Nat.mul_comm 5 k] at hcell
    have hi := (show Ints w b c.to from hi).below (HB1.out.trans (hb.mono HB1.out.size)) (Nat.le_refl _)
    obtain ⟨tA, tc, rfl⟩ := hi.shape
    have HI := Lib.hid hi
    obtain ⟨vs9, h19, _⟩ := oc
    obtain ⟨cur9, hk9⟩ := own_blk h19 (g := g) rfl
    have HTL := Lib.hid (show c.to.length ≤ 100 from (HLS.out.2.2.2.2 c (List.mem_of_getElem? hc)).2.2)
    have d4 := (blk5 kb).2.2.2.2
    have yb := kb.lt
    have HSX := Lib.hid (show ∀ w', Below wr.heap.size wr w' → _ ∧ _ ∧ _ from fun w' hb' => ⟨(hb'.cell (p := ⟨gb, _, none⟩) yb).trans d4, (hb'.cell (p := ⟨g, _, none⟩) hgl).trans hcell, (show w'.frozen? ⟨g, k * 5 + 4, none⟩ = false from frz (Blk.below hk9 hb' hgl) _)⟩)
    have HGL := Lib.hid hgl
    have HBS := Lib.hid hb.size
    clear kb hg op hb hcell hi h19 hk9 d4 yb hc
    go_wp2_with fail
    refine wp_region_D (fun _ => True) (fun w' => Below wr.heap.size wr w') 12 (by kernel_rfl) trivial (drew_below wr) (fun hD => ?_)
    have HBd := Lib.hid (drew_below wr)
    refine wpAnyD_take2 (i := 0) (v := ?vx0) rfl (by kernel_rfl) (by kernel_rfl) (by kernel_rfl) (fun _ _ _ h => h) rfl (by kernel_rfl) (by kernel_rfl) (Or.inl ⟨by rfl, ?hyx0⟩) hD (fun hD => ?_)
    case hyx0 => intro wT hSw; obtain ⟨q0, q1, q2⟩ := HSX.out _ hSw.2; go_simp; (try with_reducible rfl)
    try simp only [Act.put, List.setIfInBounds_toArray, List.set_cons_zero, List.set_cons_succ]
    refine wpAnyD_take2 (i := 1) (v := ?vx1) rfl (by kernel_rfl) (by kernel_rfl) (by kernel_rfl) (fun _ _ _ h => h) rfl (by kernel_rfl) (by kernel_rfl) (Or.inl ⟨by rfl, ?hyx1⟩) hD (fun hD => ?_)
    case hyx1 => intro wT hSw; obtain ⟨q0, q1, q2⟩ := HSX.out _ hSw.2; go_simp; (try with_reducible rfl)
    try simp only [Act.put, List.setIfInBounds_toArray, List.set_cons_zero, List.set_cons_succ]
    refine wpAnyD_take2 (i := 2) (v := ?vx2) rfl (by kernel_rfl) (by kernel_rfl) (by kernel_rfl) (fun _ _ _ h => h) rfl (by kernel_rfl) (by kernel_rfl) (Or.inl ⟨by rfl, ?hyx2⟩) hD (fun hD => ?_)
    case hyx2 => intro wT hSw; obtain ⟨q0, q1, q2⟩ := HSX.out _ hSw.2; go_simp; (try with_reducible rfl)
    try simp only [Act.put, List.setIfInBounds_toArray, List.set_cons_zero, List.set_cons_succ]
    refine wpAnyD_take2 (i := 3) (v := ?vx3) rfl (by kernel_rfl) (by kernel_rfl) (by kernel_rfl) (fun _ _ _ h => h) rfl (by kernel_rfl) (by kernel_rfl) (Or.inl ⟨by rfl, ?hyx3⟩) hD (fun hD => ?_)
    case hyx3 => intro wT hSw; obtain ⟨q0, q1, q2⟩ := HSX.out _ hSw.2; go_simp; (try with_reducible rfl)
    try simp only [Act.put, List.setIfInBounds_toArray, List.set_cons_zero, List.set_cons_succ]
    refine wpAnyD_take2 (i := 4) (v := ?vx4) rfl (by kernel_rfl) (by kernel_rfl) (by kernel_rfl) (fun _ _ _ h => h) rfl (by kernel_rfl) (by kernel_rfl) (Or.inl ⟨by rfl, ?hyx4⟩) hD (fun hD => ?_)
    case hyx4 => intro wT hSw; obtain ⟨q0, q1, q2⟩ := HSX.out _ hSw.2; go_simp; (try with_reducible rfl)
    try simp only [Act.put, List.setIfInBounds_toArray, List.set_cons_zero, List.set_cons_succ]
    refine wpAnyD_take2 (i := 5) (v := ?vx5) rfl (by kernel_rfl) (by kernel_rfl) (by kernel_rfl) (fun _ _ _ h => h) rfl (by kernel_rfl) (by kernel_rfl) (Or.inl ⟨by rfl, ?hyx5⟩) hD (fun hD => ?_)
    case hyx5 => intro wT hSw; obtain ⟨q0, q1, q2⟩ := HSX.out _ hSw.2; go_simp; (try with_reducible rfl)
    try simp only [Act.put, List.setIfInBounds_toArray, List.set_cons_zero, List.set_cons_succ]
    refine wpAnyD_take2 (i := 6) (v := ?vx6) rfl (by kernel_rfl) (by kernel_rfl) (by kernel_rfl) (fun _ _ _ h => h) rfl (by kernel_rfl) (by kernel_rfl) (Or.inl ⟨by rfl, ?hyx6⟩) hD (fun hD => ?_)
    case hyx6 => intro wT hSw; obtain ⟨q0, q1, q2⟩ := HSX.out _ hSw.2; go_simp; (try with_reducible rfl)
    try simp only [Act.put, List.setIfInBounds_toArray, List.set_cons_zero, List.set_cons_succ]
    refine wpAnyD_take2 (i := 7) (v := ?vx7) rfl (by kernel_rfl) (by kernel_rfl) (by kernel_rfl) (fun _ _ _ h => h) rfl (by kernel_rfl) (by kernel_rfl) (Or.inl ⟨by rfl, ?hyx7⟩) hD (fun hD => ?_)
    case hyx7 => intro wT hSw; obtain ⟨q0, q1, q2⟩ := HSX.out _ hSw.2; go_simp; (try with_reducible rfl)
    try simp only [Act.put, List.setIfInBounds_toArray, List.set_cons_zero, List.set_cons_succ]
    refine wpAnyD_take2 (i := 8) (v := ?vx8) rfl (by kernel_rfl) (by kernel_rfl) (by kernel_rfl) (fun _ _ _ h => h) rfl (by kernel_rfl) (by kernel_rfl) (Or.inl ⟨by rfl, ?hyx8⟩) hD (fun hD => ?_)
    case hyx8 => intro wT hSw; obtain ⟨q0, q1, q2⟩ := HSX.out _ hSw.2; go_simp; (try with_reducible rfl)
    try simp only [Act.put, List.setIfInBounds_toArray, List.set_cons_zero, List.set_cons_succ]
    refine wpAnyD_one (i := 9) (by kernel_rfl) rfl (fun K hK => ?_)
    refine step_append_at _ (by rfl) (.const (.slice none 0 0)) (.tmp 42) 23 (by rfl) w1.heap.size 3 (.int .i64 0) 1 8 Tryz.underlying23 info_int rfl (by omega) (.slice none 0 0) 0 [] (by rfl) (World.ownsRow_nil _ _ _ _) tA c.to.length tc (i64s c.to) (by rfl) (by rw [Nat.mul_one]; exact ints_src (HI.out.below HBd.out (Nat.le_refl _))) (i64s_one _) (by have := HTL.out; unfold maxLen; omega) (by have := HTL.out; omega) (by have := HBd.out.size; have := HBS.out; omega) ?_
    intro v' w9 ho hgr
    rw [Nat.zero_add] at ho
    obtain ⟨Av, cv, rfl, _⟩ := own_shape ho
    have hb9 := below_grown HBd.out hgr HBd.out.size (fun j hj => by cases hj)
    have HO := Lib.hid (show w9.ownsRow w1.heap.size 3 1 (.slice Av c.to.length cv) c.to.length (i64s c.to) from ho)
    have HB9 := Lib.hid hb9
    clear ho hgr hb9
    refine hK.out _ _ ⟨trivial, fun _ => HB9.out⟩ (fun hD => ?_)
    clear hK K
    try simp only [Act.put, List.setIfInBounds_toArray, List.set_cons_zero, List.set_cons_succ]
    refine wpAnyD_take (i := 10) (v := ?vx10) rfl (by kernel_rfl) (by kernel_rfl) (by kernel_rfl) (fun _ _ _ h => h) rfl (Or.inl ⟨by rfl, ?hyx10⟩) hD (fun hD => ?_)
    case hyx10 => intro wT hSw; go_simp; (try with_reducible rfl)
    try simp only [Act.put, List.setIfInBounds_toArray, List.set_cons_zero, List.set_cons_succ]
    refine wpAnyD_take2 (i := 11) (v := ?vx11) rfl (by kernel_rfl) (by kernel_rfl) (by kernel_rfl) (fun _ _ _ h => h) rfl (by kernel_rfl) (by kernel_rfl) (Or.inl ⟨by rfl, ?hyx11⟩) hD (fun hD => ?_)
    case hyx11 => intro wT hSw; obtain ⟨q0, q1, q2⟩ := HSX.out _ hSw.2; go_simp; (try with_reducible rfl)
    try simp only [Act.put, List.setIfInBounds_toArray, List.set_cons_zero, List.set_cons_succ]
    obtain ⟨q0, q1, q2⟩ := HSX.out _ HB9.out
    have yg := Nat.lt_of_lt_of_le HGL.out HB9.out.size
    refine wpAnyD_one (i := 12) (by kernel_rfl) rfl (fun K hK => ?_)
    go_simp
    refine hK.out _ _ (SD.after trivial (by kernel_rfl)) (fun hD => ?_)
    clear hK K
    try simp only [Act.put, List.setIfInBounds_toArray, List.set_cons_zero, List.set_cons_succ]
    refine wpAnyD_done (by kernel_rfl) ?_ _
    go_wp2_with fail
    with_reducible exact ⟨⟨k + 1, by omega, by simp, Lib.hid (IU.out.put HLC.out HCK.out HB9.out HO.out)⟩, by simp [intOf]; omega⟩
   ·as_aux_lemma =>
    have t1 : decide ((k : Int) < n) = false := by simp; omega
    have hkn2 : k = n := by omega
    subst hkn2
    obtain ⟨kb, hg, op, oc, hb⟩ := IU.out
    have hO := CodesX.done (by rw [HLC.out]; exact oc)
    obtain ⟨w3, rfl⟩ : ∃ w3 : World, w3 = wr := ⟨_, rfl⟩
    obtain ⟨Ap, cp, rfl, _⟩ := own_shape op
    have HB3 := Lib.hid (HB1.out.trans (hb.mono HB1.out.size))
    have HB13 := Lib.hid hb
    have HWAS := Lib.hid (rowV_was HC.out HPV.out HB3.out op hO)
    have KW := Lib.hid kb
    clear kb op oc hb hO IU t1
    go_upto_region 9 with fail
    go_cut [7] (fun f wx => ∃ gc : Nat, f = .pointer (some ⟨gc, 0, none⟩) ∧ Hid (∃ v0 v1 v2 v3 d C, GotP w3 gc v0 v1 v2 v3 d C wx ∧ C.length ≤ 4096 ∧ (∀ c ∈ C, c.args.length ≤ 100 ∧ c.to.length ≤ 100)))
    case first =>
     as_aux_lemma =>
     obtain ⟨r0, r1, r2, r3, r4⟩ := HSR.out _ HB13.out
     obtain ⟨s0, s1, s2, s3, s4⟩ := HSE.out _ HB13.out
     go_wp2_with fail
     (with_reducible refine (run_any e r _ _ _ (HE.out.below HB3.out (Nat.le_refl _)) (HR.out.below HB3.out (Nat.le_refl _))).mono ?_)
     rintro en w4 (⟨hn, _⟩ | ⟨_, hbig, rfl, hb4⟩ | ⟨_, P', hs', a, b, p', d', hP', hP2', hRP', rfl, oa, ob, op', oc', hb4⟩)
     ·exact absurd HC.out hn
     ·have HB4 := Lib.hid hb4
      clear hb4 r0 r1 r2 r3 r4 s0 s1 s2 s3 s4
      go_wp2_with fail
      go_meet
      with_reducible exact ⟨_, rfl, Lib.hid (GotP.none HB4.out)⟩
     ·have HB4 := Lib.hid hb4
      obtain ⟨A1, c1, rfl, _⟩ := own_shape oa
      obtain ⟨A2, c2, rfl, _⟩ := own_shape ob
      obtain ⟨A3, c3, rfl, _⟩ := own_shape op'
      obtain ⟨A4, c4, rfl⟩ := oc'.len
      have HOC := Lib.hid oc'
      have hln : (r.code.map (toldC hs')).length = r.code.length := by simp
      rw [hln] at HOC ⊢
      obtain ⟨G0, hG0⟩ : ∃ T, topOf hs' = T := ⟨_, rfl⟩
      rw [hG0]
      clear hb4 hln oa ob op' oc' r0 r1 r2 r3 r4 s0 s1 s2 s3 s4 hG0 hP' hP2' hRP'
      go_wp2_with fail
      go_meet
      with_reducible exact ⟨_, rfl, Lib.hid (GotP.new HB4.out (CodesW.of HOC.out rfl) (GotP.lens HC.out).1 (GotP.lens HC.out).2)⟩
    case rest =>
     as_aux_lemma =>
     obtain ⟨w4, rfl⟩ : ∃ w4 : World, w4 = wc := ⟨_, rfl⟩
     obtain ⟨gc, rfl, HU⟩ := hcut
     obtain ⟨v0, v1, v2, v3, d, C, hG, hCl, hCb⟩ := HU.out
     obtain ⟨m, hm⟩ : ∃ m, C.length = m := ⟨_, rfl⟩
     obtain ⟨Ac, cc, hd⟩ := hG.2.2.1.shape
     rw [hm] at hd hCl
     subst hd
     have HM := Lib.hid hm
     have HCB := Lib.hid hCb
     have HG0 := Lib.hid hG
     have d4 := (blk5 hG.1).2.2.2.2
     have yb := hG.1.lt
     clear HU hG hCb hm
     go_wp2_with fail
     go_loopw [56] (fun i wr => ∃ k : Nat, k ≤ m ∧ i = .int .i64 k ∧ Hid (GotP w3 gc v0 v1 v2 v3 (.slice Ac m cc) C wr)) (fun i _ => m - (intOf i).toNat)
     case atStart => exact ⟨0, by omega, rfl, HG0⟩
     case round =>
      clear HG0 d4 yb
      obtain ⟨k, hk, rfl, IU⟩ := hrel
      by_cases hkn : k < m
      ·as_aux_lemma =>
       have t1 : decide ((k : Int) < m) = true := by simp; omega
       have t2 : (k : Int) < m := by omega
       obtain ⟨c, hc⟩ : ∃ c, C[k]? = some c := ⟨_, List.getElem?_eq_getElem (by rw [HM.out]; exact hkn)⟩
       have HCK := Lib.hid hc
       have hcl := HCB.out c (List.mem_of_getElem? hc)
       have hl1 := hcl.1
       have hl2 := hcl.2
       clear hcl hc
       obtain ⟨kb, hgc, oc, hb⟩ := IU.out
       obtain ⟨g, cap, A, m1, B, n1, e1, hbg, hgl, ca, cb, _, _⟩ := CodesW.read oc HCK.out
       injection e1 with e1 e2 e3
       clear e2
       subst e1
       subst e3
       rw [Nat.mul_comm 5 k] at ca cb
       have d4 := (blk5 kb).2.2.2.2
       have yb := kb.lt
       clear kb oc hb
       go_wp2_with fail
       clear d4 yb ca cb
       go_loopw [66] (fun i wr => ∃ j : Nat, j ≤ c.args.length ∧ i = .int .i64 j ∧ Hid (GotP w3 gc v0 v1 v2 v3 (.slice (some ⟨g, 0, none⟩) m cc) C wr)) (fun i _ => c.args.length - (intOf i).toNat)
       case atStart => exact ⟨0, by omega, rfl, IU⟩
       case round =>
        clear IU
        obtain ⟨j, hj, rfl, IV⟩ := hrel
        by_cases hjn : j < c.args.length
        ·as_aux_lemma =>
         have t1 : decide ((j : Int) < c.args.length) = true := by simp; omega
         have t2 : (j : Int) < c.args.length := by omega
         obtain ⟨kb, hgc, oc, hb⟩ := IV.out
         obtain ⟨A, m1, B, n1, hbg, hgl, ca, cb, ⟨xa, oA⟩, ⟨xb, oB⟩⟩ := CodesW.readG oc HCK.out
         obtain ⟨gA, u, ks, rfl, hbA, hlA, hcA, hkA⟩ := own_in oA hjn
         have d4 := (blk5 kb).2.2.2.2
         have yb := kb.lt
         have fA := frz hkA j
         have HNX := Lib.hid (IV.out.set (i := j) (u := .int .i64 (-1)) hkA hbA)
         clear kb oc hb oA oB hkA IV
         go_wp2_with fail
         with_reducible exact ⟨⟨j + 1, by omega, by simp, HNX⟩, by simp [intOf]; omega⟩
        ·as_aux_lemma =>
         have t1 : decide ((j : Int) < c.args.length) = false := by simp; omega
         obtain ⟨kb, hgc, oc, hb⟩ := IV.out
         obtain ⟨A, m1, B, n1, hbg, hgl, ca, cb, ⟨xa, oA⟩, ⟨xb, oB⟩⟩ := CodesW.readG oc HCK.out
         have d4 := (blk5 kb).2.2.2.2
         have yb := kb.lt
         have IU := IV
         clear kb oc hb oA oB IV
         go_wp2_with fail
         clear d4 yb ca cb t1
         go_loopw [85] (fun i wr => ∃ j : Nat, j ≤ c.to.length ∧ i = .int .i64 j ∧ Hid (GotP w3 gc v0 v1 v2 v3 (.slice (some ⟨g, 0, none⟩) m cc) C wr)) (fun i _ => c.to.length - (intOf i).toNat)
         case atStart => exact ⟨0, by omega, rfl, IU⟩
         case round =>
          clear IU
          obtain ⟨j, hj, rfl, IV⟩ := hrel
          by_cases hjn : j < c.to.length
          ·as_aux_lemma =>
           have t1 : decide ((j : Int) < c.to.length) = true := by simp; omega
           have t2 : (j : Int) < c.to.length := by omega
           obtain ⟨kb, hgc, oc, hb⟩ := IV.out
           obtain ⟨A, m1, B, n1, hbg, hgl, ca, cb, ⟨xa, oA⟩, ⟨xb, oB⟩⟩ := CodesW.readG oc HCK.out
           obtain ⟨gA, u, ks, rfl, hbA, hlA, hcA, hkA⟩ := own_in oB hjn
           have d4 := (blk5 kb).2.2.2.2
           have yb := kb.lt
           have fA := frz hkA j
           have HNX := Lib.hid (IV.out.set (i := j) (u := .int .i64 (-1)) hkA hbA)
           clear kb oc hb oA oB hkA IV
           go_wp2_with fail
           with_reducible exact ⟨⟨j + 1, by omega, by simp, HNX⟩, by simp [intOf]; omega⟩
          ·as_aux_lemma =>
           have t1 : decide ((j : Int) < c.to.length) = false := by simp; omega
           obtain ⟨kb, hgc, oc, hb⟩ := IV.out
           obtain ⟨A, m1, B, n1, hbg, hgl, ca, cb, ⟨xa, oA⟩, ⟨xb, oB⟩⟩ := CodesW.readG oc HCK.out
           have d4 := (blk5 kb).2.2.2.2
           have yb := kb.lt
           have IU := IV
           clear kb oc hb oA oB IV
           go_wp2_with fail
           with_reducible exact ⟨⟨k + 1, by omega, by simp, IU⟩, by simp [intOf]; omega⟩
      ·as_aux_lemma =>
       have t1 : decide ((k : Int) < m) = false := by simp; omega
       obtain ⟨w5, rfl⟩ : ∃ w5 : World, w5 = wr := ⟨_, rfl⟩
       have HB35 := Lib.hid IU.out.2.2.2
       have HB15 := Lib.hid (HB13.out.trans (HB35.out.mono HB13.out.size))
       have HB5 := Lib.hid (HB1.out.trans (HB15.out.mono HB1.out.size))
       clear IU
       go_upto_region 24 with fail
       go_cut [12] (fun f wx => ∃ (A : Option Addr) (n' c : Nat), f = .slice A n' c ∧ n' ≤ 4096 ∧ Hid (OverP w5 A n' c wx))
       case first =>
        as_aux_lemma =>
        obtain ⟨r0, r1, r2, r3, r4⟩ := HSR.out _ HB15.out
        obtain ⟨s0, s1, s2, s3, s4⟩ := HSE.out _ HB15.out
        go_wp2_with fail
        (with_reducible refine (homes_x e r _ _ _ (HE.out.below HB5.out (Nat.le_refl _)) (HR.out.below HB5.out (Nat.le_refl _))).mono ?_)
        rintro en w6 (⟨hn, _⟩ | ⟨_, hbig, rfl, hb6⟩ | ⟨_, P', hs', g', hP', hP2', hRP', rfl, hg', hk', hb6⟩)
        ·exact absurd HC.out hn
        ·have HB6 := Lib.hid hb6
         clear hb6 r0 r1 r2 r3 r4 s0 s1 s2 s3 s4
         go_wp2_with fail
         go_meet
         with_reducible exact ⟨_, _, _, rfl, Nat.zero_le _, Lib.hid (OverP.none HB6.out)⟩
        ·have HO6 := Lib.hid (show OverP w5 (some ⟨g', 0, none⟩) P' P' w6 from ⟨⟨_, own_of_blk hk' hRP'.len (by omega) hg'⟩, hb6⟩)
         clear hb6 hk' r0 r1 r2 r3 r4 s0 s1 s2 s3 s4 hRP' hP'
         go_wp2_with fail
         go_meet
         exact ⟨_, _, _, rfl, by omega, HO6⟩
       case rest =>
        as_aux_lemma =>
        obtain ⟨w6, rfl⟩ : ∃ w6 : World, w6 = wc := ⟨_, rfl⟩
        obtain ⟨A, n', c, rfl, hn', HU⟩ := hcut
        go_wp2_with fail
        go_loopw [106] (fun i wr => ∃ k : Nat, k ≤ n' ∧ i = .int .i64 k ∧ Hid (OverP w5 A n' c wr)) (fun i _ => n' - (intOf i).toNat)
        case atStart => exact ⟨0, by omega, rfl, HU⟩
        case round =>
         clear HU
         obtain ⟨k, hk, rfl, IU⟩ := hrel
         by_cases hkn : k < n'
         ·as_aux_lemma =>
          have t1 : decide ((k : Int) < n') = true := by simp; omega
          have t2 : (k : Int) < n' := by omega
          obtain ⟨⟨xs, ho⟩, hb⟩ := IU.out
          obtain ⟨gA, u, ks, rfl, hbA, hlA, hcA, hkA⟩ := own_in ho hkn
          have fA := frz hkA k
          have HNX := Lib.hid (IU.out.set (i := k) (u := .int .i64 (-1)) hkA hbA)
          clear ho hb hkA IU
          go_wp2_with fail
          with_reducible exact ⟨⟨k + 1, by omega, by simp, HNX⟩, by simp [intOf]; omega⟩
         ·as_aux_lemma =>
          have t1 : decide ((k : Int) < n') = false := by simp; omega
          obtain ⟨w7, rfl⟩ : ∃ w7 : World, w7 = wr := ⟨_, rfl⟩
          have HB37 := Lib.hid (HB35.out.trans (IU.out.2.mono HB35.out.size))
          have HB17 := Lib.hid (HB13.out.trans (HB37.out.mono HB13.out.size))
          have HB7 := Lib.hid (HB1.out.trans (HB17.out.mono HB1.out.size))
          clear IU HB35 HB15 HB5
          go_upto_region 30 with fail
          go_cut [15] (fun f wx => ∃ gb : Nat, f = .pointer (some ⟨gb, 0, none⟩) ∧ Hid (WasP w w7 gb (.slice vA r.sig.inn.length vc) (.slice vB r.sig.out.length ve) r (idL P) wx))
          case first =>
           as_aux_lemma =>
           refine wp_region_D (fun w' => Below w7.heap.size w7 w') (fun _ => True) 6 (by kernel_rfl) (drew_below w7) trivial (fun hD => ?_)
           have HBd := Lib.hid (drew_below w7)
           refine wpAnyD_take (i := 0) (v := ?vs150) rfl (by kernel_rfl) (by kernel_rfl) (by kernel_rfl) (fun _ _ _ h => h) rfl (Or.inl ⟨by rfl, ?hys150⟩) hD (fun hD => ?_)
           case hys150 => intro wT hSw; obtain ⟨r0, r1, r2, r3, r4⟩ := HSR.out _ (HB17.out.trans (hSw.mono HB17.out.size)); go_simp; (try with_reducible rfl)
           try simp only [Act.put, List.setIfInBounds_toArray, List.set_cons_zero, List.set_cons_succ]
           refine wpAnyD_take (i := 1) (v := ?vs151) rfl (by kernel_rfl) (by kernel_rfl) (by kernel_rfl) (fun _ _ _ h => h) rfl (Or.inl ⟨by rfl, ?hys151⟩) hD (fun hD => ?_)
           case hys151 => intro wT hSw; obtain ⟨r0, r1, r2, r3, r4⟩ := HSR.out _ (HB17.out.trans (hSw.mono HB17.out.size)); go_simp; (try with_reducible rfl)
           try simp only [Act.put, List.setIfInBounds_toArray, List.set_cons_zero, List.set_cons_succ]
           refine wpAnyD_take (i := 2) (v := ?vs152) rfl (by kernel_rfl) (by kernel_rfl) (by kernel_rfl) (fun _ _ _ h => h) rfl (Or.inl ⟨by rfl, ?hys152⟩) hD (fun hD => ?_)
           case hys152 => intro wT hSw; obtain ⟨r0, r1, r2, r3, r4⟩ := HSR.out _ (HB17.out.trans (hSw.mono HB17.out.size)); go_simp; (try with_reducible rfl)
           try simp only [Act.put, List.setIfInBounds_toArray, List.set_cons_zero, List.set_cons_succ]
           refine wpAnyD_two (i := 3) (j := 5) (by kernel_rfl) rfl rfl (fun K hK => ?_) (fun K hK => ?_)
           ·as_aux_lemma =>
            go_simp
            (with_reducible refine (itself_at _ P _ HP.out (by have := HPL.out; omega)).mono ?_)
            rintro en wA ⟨g, rfl, hg, hk, hb⟩
            have HK := Lib.hid hk
            have HBA := Lib.hid (HBd.out.trans (hb.mono HBd.out.size))
            clear hb hk
            refine hK.out _ _ ⟨HBA.out, fun _ => trivial⟩ (fun hD => ?_)
            clear hK K
            try simp only [Act.put, List.setIfInBounds_toArray, List.set_cons_zero, List.set_cons_succ]
            refine wpAnyD_two (i := 4) (j := 5) (by kernel_rfl) rfl rfl (fun K hK => ?_) (fun K hK => ?_)
            ·as_aux_lemma =>
             go_simp
             (with_reducible refine (CT.out _ _ (HB7.out.trans (HBA.out.mono HB7.out.size)) HK.out).mono ?_)
             rintro en wB ⟨p, d, rfl, op, oc, hb⟩
             have OP := Lib.hid op
             have OC := Lib.hid oc
             have HBB := Lib.hid hb
             obtain ⟨Ap, cp, rfl, _⟩ := own_shape op
             obtain ⟨xsd, hxd⟩ := oc.row
             rw [List.length_map] at hxd
             obtain ⟨Ad, cd, rfl, _⟩ := own_shape hxd
             clear op oc hb hxd
             refine hK.out _ _ ⟨below_step HBA.out HBB.out, fun _ => trivial⟩ (fun hD => ?_)
             clear hK K
             try simp only [Act.put, List.setIfInBounds_toArray, List.set_cons_zero, List.set_cons_succ]
             refine wpAnyD_one (i := 5) (by kernel_rfl) rfl (fun K hK => ?_)
             go_simp
             refine hK.out _ _ ⟨below_al (below_step HBA.out HBB.out), fun _ => trivial⟩ (fun hD => ?_)
             clear hK K
             try simp only [Act.put, List.setIfInBounds_toArray, List.set_cons_zero, List.set_cons_succ]
             refine wpAnyD_one (i := 6) (by kernel_rfl) rfl (fun K hK => ?_)
             go_simp
             refine hK.out _ _ ⟨below_al (below_step HBA.out HBB.out), fun _ => trivial⟩ (fun hD => ?_)
             clear hK K
             try simp only [Act.put, List.setIfInBounds_toArray, List.set_cons_zero, List.set_cons_succ]
             refine wpAnyD_done (by kernel_rfl) ?_ _
             go_wp2_with fail
             go_meet
             with_reducible exact ⟨_, rfl, Lib.hid (WasP.mk1 HBA.out OP.out OC.out HBB.out)⟩
            ·as_aux_lemma =>
             go_simp
             refine hK.out _ _ ⟨below_al HBA.out, fun _ => trivial⟩ (fun hD => ?_)
             clear hK K
             try simp only [Act.put, List.setIfInBounds_toArray, List.set_cons_zero, List.set_cons_succ]
             refine wpAnyD_one (i := 4) (by kernel_rfl) rfl (fun K hK => ?_)
             go_simp
             (with_reducible refine (CT.out _ _ (HB7.out.trans ((below_al HBA.out).mono HB7.out.size)) (Blk.alloc HK.out _)).mono ?_)
             rintro en wB ⟨p, d, rfl, op, oc, hb⟩
             have OP := Lib.hid op
             have OC := Lib.hid oc
             have HBB := Lib.hid hb
             obtain ⟨Ap, cp, rfl, _⟩ := own_shape op
             obtain ⟨xsd, hxd⟩ := oc.row
             rw [List.length_map] at hxd
             obtain ⟨Ad, cd, rfl, _⟩ := own_shape hxd
             have kz := Lib.hid (box_after hb)
             clear op oc hb hxd
             refine hK.out _ _ ⟨below_step (below_al HBA.out) HBB.out, fun _ => trivial⟩ (fun hD => ?_)
             clear hK K
             try simp only [Act.put, List.setIfInBounds_toArray, List.set_cons_zero, List.set_cons_succ]
             obtain ⟨z0, z1, z2, z3, z4⟩ := blk5 kz.out
             have f0 := frz kz.out 0
             have f1 := frz kz.out 1
             have f2 := frz kz.out 2
             have f3 := frz kz.out 3
             have f4 := frz kz.out 4
             have yz := Blk.lt kz.out
             refine wpAnyD_one (i := 6) (by kernel_rfl) rfl (fun K hK => ?_)
             go_simp
             refine hK.out _ _ ⟨below5 (below_step (below_al HBA.out) HBB.out) HBA.out.size _ _ _ _ _, fun _ => trivial⟩ (fun hD => ?_)
             clear hK K
             try simp only [Act.put, List.setIfInBounds_toArray, List.set_cons_zero, List.set_cons_succ]
             refine wpAnyD_done (by kernel_rfl) ?_ _
             go_wp2_with fail
             go_meet
             with_reducible exact ⟨_, rfl, Lib.hid (WasP.mk2 (below_al HBA.out) OP.out OC.out HBB.out kz.out HBA.out.size)⟩
           ·as_aux_lemma =>
            go_simp
            refine hK.out _ _ ⟨drew_al w7, fun _ => trivial⟩ (fun hD => ?_)
            clear hK K
            try simp only [Act.put, List.setIfInBounds_toArray, List.set_cons_zero, List.set_cons_succ]
            refine wpAnyD_one (i := 3) (by kernel_rfl) rfl (fun K hK => ?_)
            go_simp
            (with_reducible refine (itself_at _ P _ HP.out (by have := HPL.out; omega)).mono ?_)
            rintro en wA ⟨g, rfl, hg, hk, hb⟩
            have HK := Lib.hid hk
            have HBA := Lib.hid (below_step (drew_al w7) hb)
            have KZ := Lib.hid (box_afterD hb)
            clear hb hk
            refine hK.out _ _ ⟨HBA.out, fun _ => trivial⟩ (fun hD => ?_)
            clear hK K
            try simp only [Act.put, List.setIfInBounds_toArray, List.set_cons_zero, List.set_cons_succ]
            refine wpAnyD_one (i := 4) (by kernel_rfl) rfl (fun K hK => ?_)
            go_simp
            (with_reducible refine (CT.out _ _ (HB7.out.trans (HBA.out.mono HB7.out.size)) HK.out).mono ?_)
            rintro en wB ⟨p, d, rfl, op, oc, hb⟩
            have OP := Lib.hid op
            have OC := Lib.hid oc
            have HBB := Lib.hid hb
            obtain ⟨Ap, cp, rfl, _⟩ := own_shape op
            obtain ⟨xsd, hxd⟩ := oc.row
            rw [List.length_map] at hxd
            obtain ⟨Ad, cd, rfl, _⟩ := own_shape hxd
            have kz := Lib.hid (KZ.out.below hb KZ.out.lt)
            clear op oc hb hxd
            refine hK.out _ _ ⟨below_step HBA.out HBB.out, fun _ => trivial⟩ (fun hD => ?_)
            clear hK K
            try simp only [Act.put, List.setIfInBounds_toArray, List.set_cons_zero, List.set_cons_succ]
            obtain ⟨z0, z1, z2, z3, z4⟩ := blk5 kz.out
            have f0 := frz kz.out 0
            have f1 := frz kz.out 1
            have f2 := frz kz.out 2
            have f3 := frz kz.out 3
            have f4 := frz kz.out 4
            have yz := Blk.lt kz.out
            refine wpAnyD_one (i := 6) (by kernel_rfl) rfl (fun K hK => ?_)
            go_simp
            refine hK.out _ _ ⟨below5 (below_step HBA.out HBB.out) (Nat.le_refl _) _ _ _ _ _, fun _ => trivial⟩ (fun hD => ?_)
            clear hK K
            try simp only [Act.put, List.setIfInBounds_toArray, List.set_cons_zero, List.set_cons_succ]
            refine wpAnyD_done (by kernel_rfl) ?_ _
            go_wp2_with fail
            go_meet
            with_reducible exact ⟨_, rfl, Lib.hid (WasP.mk2 HBA.out OP.out OC.out HBB.out kz.out (Nat.le_refl _))⟩
          case rest =>
           as_aux_lemma =>
           obtain ⟨w8, rfl⟩ : ∃ w8 : World, w8 = wc := ⟨_, rfl⟩
           obtain ⟨gn, rfl, HU⟩ := hcut
           obtain ⟨pn, dn, kn, hgn, opn, ocn, hbn⟩ := HU.out
           obtain ⟨Bp, bp, rfl, _⟩ := own_shape opn
           obtain ⟨xsn, hxn⟩ := ocn.row
           rw [List.length_map] at hxn
           obtain ⟨Bd, bd, rfl, _⟩ := own_shape hxn
           have HB38 := Lib.hid (HB37.out.trans (hbn.mono HB37.out.size))
           have HB18 := Lib.hid (HB13.out.trans (HB38.out.mono HB13.out.size))
           have HB8 := Lib.hid (HB1.out.trans (HB18.out.mono HB1.out.size))
           have HNOW := Lib.hid (rowV_now HC.out HPV.out HB8.out opn ocn)
           have KN := Lib.hid kn
           clear kn opn ocn hbn HU hxn HB37 HB17 HB7
           obtain ⟨r0, r1, r2, r3, r4⟩ := HSR.out _ HB18.out
           obtain ⟨s0, s1, s2, s3, s4⟩ := HSE.out _ HB18.out
           go_wp2_with fail
           (with_reducible refine (homes_x e r _ _ _ (HE.out.below HB8.out (Nat.le_refl _)) (HR.out.below HB8.out (Nat.le_refl _))).mono ?_)
           rintro en w9 (⟨hn, _⟩ | ⟨_, hbig, rfl, hb9⟩ | ⟨_, P', hs', g', hP', hP2', hRP', rfl, hg', hk', hb9⟩)
           ·exact absurd HC.out hn
           ·as_aux_lemma =>
            have HB39 := Lib.hid (HB38.out.trans (hb9.mono HB38.out.size))
            have HB19 := Lib.hid (HB13.out.trans (HB39.out.mono HB13.out.size))
            have HB9 := Lib.hid (HB1.out.trans (HB19.out.mono HB1.out.size))
            have hw9 := HWAS.out.below HB39.out (Nat.le_refl _)
            have hn9 := HNOW.out.below hb9 (Nat.le_refl _)
            have HW9 := Lib.hid hw9
            have HN9 := Lib.hid hn9
            have kw9 := KW.out.below HB39.out KW.out.lt
            have kn9 := KN.out.below hb9 KN.out.lt
            obtain ⟨d0, d1, d2, d3, d4⟩ := blk5 kw9
            obtain ⟨e0, e1, e2, e3, e4⟩ := blk5 kn9
            have yw := kw9.lt
            have yn := kn9.lt
            have HKW := Lib.hid kw9
            have HKN := Lib.hid kn9
            clear hb9 hw9 hn9 kw9 kn9 r0 r1 r2 r3 r4 s0 s1 s2 s3 s4
            obtain ⟨r0, r1, r2, r3, r4⟩ := HSR.out _ HB19.out
            obtain ⟨s0, s1, s2, s3, s4⟩ := HSE.out _ HB19.out
            go_wp2_with fail
            (with_reducible refine (same_row (toldR r (idL P)) _ _ _ HW9.out HN9.out (told_sm HC.out).1 (told_sm HC.out).2.1 (told_sm HC.out).2.2).mono ?_)
            rintro en wA ⟨rfl, hbA⟩
            have HBA := Lib.hid (HB9.out.trans (hbA.mono HB9.out.size))
            have HB1A := Lib.hid (HB19.out.trans (hbA.mono HB19.out.size))
            have HB9A := Lib.hid hbA
            clear hbA d0 d1 d2 d3 d4 e0 e1 e2 e3 e4 yw yn r0 r1 r2 r3 r4 s0 s1 s2 s3 s4
            obtain ⟨r0, r1, r2, r3, r4⟩ := HSR.out _ HB1A.out
            obtain ⟨s0, s1, s2, s3, s4⟩ := HSE.out _ HB1A.out
            go_wp2_with fail
            refine (alive_any _).mono ?_
            rintro en wC ⟨rfl, hbC⟩
            have HBC := Lib.hid (HBA.out.trans (hbC.mono HBA.out.size))
            clear hbC
            go_wp2_with fail
            go_ret
            exact ⟨rfl, HBC.out⟩
           ·as_aux_lemma =>
            have HB39 := Lib.hid (HB38.out.trans (hb9.mono HB38.out.size))
            have HB19 := Lib.hid (HB13.out.trans (HB39.out.mono HB13.out.size))
            have HB9 := Lib.hid (HB1.out.trans (HB19.out.mono HB1.out.size))
            have hw9 := HWAS.out.below HB39.out (Nat.le_refl _)
            have hn9 := HNOW.out.below hb9 (Nat.le_refl _)
            have HW9 := Lib.hid hw9
            have HN9 := Lib.hid hn9
            have kw9 := KW.out.below HB39.out KW.out.lt
            have kn9 := KN.out.below hb9 KN.out.lt
            obtain ⟨d0, d1, d2, d3, d4⟩ := blk5 kw9
            obtain ⟨e0, e1, e2, e3, e4⟩ := blk5 kn9
            have yw := kw9.lt
            have yn := kn9.lt
            have HKW := Lib.hid kw9
            have HKN := Lib.hid kn9
            have HRP := Lib.hid hRP'
            have HPP := Lib.hid hP'
            have HH9 := Lib.hid (show IR w9 (.slice (some ⟨g', 0, none⟩) P' P') hs' from IR.of (Blk.srcAll hk' (by simp [i64s, hRP'.len])) hRP'.len)
            clear hRP' hP' hk'
            clear hb9 hw9 hn9 kw9 kn9 r0 r1 r2 r3 r4 s0 s1 s2 s3 s4
            obtain ⟨r0, r1, r2, r3, r4⟩ := HSR.out _ HB19.out
            obtain ⟨s0, s1, s2, s3, s4⟩ := HSE.out _ HB19.out
            go_wp2_with fail
            (with_reducible refine (same_row (toldR r (idL P)) _ _ _ HW9.out HN9.out (told_sm HC.out).1 (told_sm HC.out).2.1 (told_sm HC.out).2.2).mono ?_)
            rintro en wA ⟨rfl, hbA⟩
            have HBA := Lib.hid (HB9.out.trans (hbA.mono HB9.out.size))
            have HB1A := Lib.hid (HB19.out.trans (hbA.mono HB19.out.size))
            have HB9A := Lib.hid hbA
            clear hbA d0 d1 d2 d3 d4 e0 e1 e2 e3 e4 yw yn r0 r1 r2 r3 r4 s0 s1 s2 s3 s4
            obtain ⟨r0, r1, r2, r3, r4⟩ := HSR.out _ HB1A.out
            obtain ⟨s0, s1, s2, s3, s4⟩ := HSE.out _ HB1A.out
            go_wp2_with fail
            (with_reducible refine (right_any e r _ _ _ hs' P' _ (HE.out.below HBA.out (Nat.le_refl _)) (HR.out.below HBA.out (Nat.le_refl _)) HC.out HPP.out hP2' HRP.out.toRightP (HH9.out.below HB9A.out (Nat.le_refl _))).mono ?_)
            rintro en wB ⟨rfl, hbB⟩
            have HBB := Lib.hid (HBA.out.trans (hbB.mono HBA.out.size))
            clear hbB r0 r1 r2 r3 r4 s0 s1 s2 s3 s4
            go_wp2_with fail
            refine (alive_any _).mono ?_
            rintro en wC ⟨rfl, hbC⟩
            have HBC := Lib.hid (HBB.out.trans (hbC.mono HBB.out.size))
            clear hbC
            go_wp2_with fail
            go_ret
            exact ⟨rfl, HBC.out⟩
end Go.Proofs.YtgmapikcpnffhaaGreat
