/-
  AllocApart: of all places that are live behind an instruction no two have one home, but of what a move copies.
  Conditions: none.
-/
import Derived.Test.YtgmapikcpnffhaaGreatAlcAl
namespace Go.Proofs.YtgmapikcpnffhaaGreat
open Go.RowKit Go.Bk Go.Bk.Liv
set_option linter.unusedVariables false
set_option linter.unusedSimpArgs false
set_option maxRecDepth 100000 in
set_option maxHeartbeats 8000000 in
theorem AllocApart_walk (e : EnvD) (r : RowD) (ve vr : Value) (w : World) (he : EnvV w ve e) (hr : RowV w vr r) : Calls Tryz.prog 5 #[ve, vr] w (LawPost w) := by
  have HE := Lib.hid he
  have HR := Lib.hid hr
  obtain ⟨va, vb, vd, rfl, h1, h2, h3⟩ := he
  obtain ⟨vp, vq, vpar, vs, rfl, h4, h5, h6, h7⟩ := hr
  obtain ⟨Ac, cc, rfl, _⟩ := h7.len
  have H7 := Lib.hid h7
  clear h1 h2 h3 h4 h5 h6 h7
  have HB0 := Lib.hid (al2 w (.cells #[va, .int .i64 e.imports, vb, vd, .bool e.mem] 26) (.cells #[vp, vq, .int .i64 r.places, vpar, .slice Ac r.code.length cc] 31))
  have KE0 := Lib.hid (Blk.alloc (Blk.new w 26 #[va, .int .i64 e.imports, vb, vd, .bool e.mem]) (.cells #[vp, vq, .int .i64 r.places, vpar, .slice Ac r.code.length cc] 31))
  have KR0 := Lib.hid (Blk.newAt (w.alloc (.cells #[va, .int .i64 e.imports, vb, vd, .bool e.mem] 26)) (N := w.heap.size + 1) 31 #[vp, vq, .int .i64 r.places, vpar, .slice Ac r.code.length cc] (by simp))
  go_enter Tryz.func5, Tryz.ntmps5
  go_wp2_with fail
  (with_reducible refine (homes_x e r _ _ _ (HE.out.below HB0.out (Nat.le_refl _)) (HR.out.below HB0.out (Nat.le_refl _))).mono ?_)
  rintro en w1 (⟨hnc, rfl, hb1⟩ | ⟨hc, hbig, rfl, hb1⟩ | ⟨hc, P, hs, g, hP, hP2, hRP, rfl, hg, hk, hb1⟩)
  · have HB1 := Lib.hid (HB0.out.trans (hb1.mono HB0.out.size))
    clear hb1 hnc
    go_wp2_with fail
    refine (alive_any _).mono ?_
    rintro en w3 ⟨rfl, hb⟩
    have HB3 := Lib.hid (HB1.out.trans (hb.mono HB1.out.size))
    clear hb
    go_wp2
    go_ret
    exact ⟨rfl, HB3.out⟩
  · have HB1 := Lib.hid (HB0.out.trans (hb1.mono HB0.out.size))
    clear hb1 hc hbig
    go_wp2_with fail
    refine (alive_any _).mono ?_
    rintro en w3 ⟨rfl, hb⟩
    have HB3 := Lib.hid (HB1.out.trans (hb.mono HB1.out.size))
    clear hb
    go_wp2
    go_ret
    exact ⟨rfl, HB3.out⟩
  · have HB1 := Lib.hid (HB0.out.trans (hb1.mono HB0.out.size))
    have HC := Lib.hid hc
    have HP := Lib.hid hP
    have HRP := Lib.hid hRP
    have HH1 := Lib.hid (show IR w1 (.slice (some ⟨g, 0, none⟩) P P) hs from IR.of (Blk.srcAll hk (by simp [i64s, hRP.len])) hRP.len)
    have KE1 := KE0.out.below hb1 KE0.out.lt
    have KR1 := KR0.out.below hb1 KR0.out.lt
    have HKR := Lib.hid KR1
    rw [hP] at KR1
    obtain ⟨r0, r1, r2, r3, r4⟩ := blk5 KR1
    obtain ⟨s0, s1, s2, s3, s4⟩ := blk5 KE1
    have y1 := KR1.lt
    have y2 := KE1.lt
    have q0 : ((P : Int) != (P : Int)) = false := by simp
    have HRP2 := HR.out
    rw [hP] at HRP2
    have HRQ := Lib.hid HRP2
    clear hb1 KE1 KR1 hc hP hRP hk hg HRP2
    go_wp2_with fail
    (with_reducible refine (rBehind_any e r _ _ _ (HE.out.below HB1.out (Nat.le_refl _)) (HRQ.out.below HB1.out (Nat.le_refl _))).mono ?_)
    rintro en w2 (⟨hnc, _⟩ | ⟨_, v2, rfl, hT, hb⟩)
    · exact absurd HC.out hnc
    have HB2 := Lib.hid (HB1.out.trans (hb.mono HB1.out.size))
    have HH2 := Lib.hid (HH1.out.below hb (Nat.le_refl _))
    have KR2 := Lib.hid (HKR.out.below hb HKR.out.lt)
    obtain ⟨PB, hLB, hPBl, hPB⟩ := hT.lists
    obtain ⟨A2, c2', rfl⟩ := hLB.shape
    obtain ⟨n, hn⟩ : ∃ n, r.code.length = n := ⟨_, rfl⟩
    have hn4 : n ≤ 4096 := by have := HC.out.n2; omega
    rw [hPBl, hn] at hLB ⊢
    have HLB := Lib.hid hLB
    have HPB := Lib.hid hPB
    have HPBL := Lib.hid (hPBl.trans hn)
    have HN := Lib.hid hn
    clear hb hT hLB hPB hPBl r0 r1 r2 r3 r4 s0 s1 s2 s3 s4 y1 y2 HH1 HKR q0
    obtain ⟨r0, r1, r2, r3, r4⟩ := blk5 KR2.out
    have y1 := KR2.out.lt
    rw [hn] at r4
    clear hn r0 r1 r2 r3
    go_wp2_with fail
    clear r4 y1
    go_loopw [44] (fun i wr => ∃ k : Nat, k ≤ n ∧ i = .int .i64 k ∧ Hid (Below w2.heap.size w2 wr)) (fun i _ => n - (intOf i).toNat)
    case atStart => exact ⟨0, by omega, rfl, Lib.hid (Below.refl _ _)⟩
    case round => as_aux_lemma =>
      obtain ⟨k, hk, rfl, IB⟩ := hrel
      obtain ⟨wa, rfl⟩ : ∃ wa : World, wa = wr := ⟨_, rfl⟩
      by_cases hlt : k < n
      · have hlt' : decide ((k : Int) < n) = true := by simp; omega
        have hlt2 : (k : Int) < n := by omega
        obtain ⟨c, hck⟩ : ∃ c, r.code[k]? = some c := ⟨_, List.getElem?_eq_getElem (by rw [HN.out]; exact hlt)⟩
        have hba : Below w.heap.size w wa := HB2.out.trans (IB.out.mono HB2.out.size)
        obtain ⟨gb, go, p, q, tt, rfl, hgb2, g0, g1, g2, g3, g4, s0, s1, s2, s3⟩ := H7.out.code hck
        replace g0 := (hba.cell (p := ⟨gb, _, none⟩) hgb2).trans g0
        replace g1 := (hba.cell (p := ⟨gb, _, none⟩) hgb2).trans g1
        replace g2 := (hba.cell (p := ⟨gb, _, none⟩) hgb2).trans g2
        replace g3 := (hba.cell (p := ⟨gb, _, none⟩) hgb2).trans g3
        replace g4 := (hba.cell (p := ⟨gb, _, none⟩) hgb2).trans g4
        obtain ⟨pA, pc, rfl⟩ := s1.shape
        obtain ⟨qA, qc, rfl⟩ := s2.shape
        obtain ⟨tA, tc, rfl⟩ := s3.shape
        have hsz := hba.size
        have hgl : gb < wa.heap.size := by omega
        have hbz := IB.out.size
        have HOI := Lib.hid s2.ir
        have HCK := Lib.hid hck
        have HBA := Lib.hid hba
        have hck2 := HC.out.code c (List.mem_of_getElem? hck)
        have hol := (code_lens HC.out hck2).2
        have HPL := Lib.hid (codeOk_places hck2)
        obtain ⟨pb, hpb⟩ : ∃ p, PB[k]? = some p := ⟨_, List.getElem?_eq_getElem (by rw [HPBL.out]; exact hlt)⟩
        have HPb := Lib.hid hpb
        have lm2 : pb.length ≤ 4096 := (HPB.out k pb hpb).small HC.out (fun x hx => hx.range HC.out)
        obtain ⟨m, hm⟩ : ∃ m, c.outs.length = m := ⟨_, rfl⟩
        rw [hm] at g3 hol
        have HM := Lib.hid hm
        clear hck hba s0 s1 s2 s3 hck2 hpb hm
        by_cases hmv : c.op = 272
        · have qm : (c.op == 272) = true := by simp [hmv]
          have IB2 := Lib.hid (IB.out.alloc hbz (.cells #[.int .i64 c.op, .int .u64 (c.n : Int), .slice pA c.args.length pc, .slice qA m qc, .slice tA c.to.length tc] 48))
          clear hmv
          go_wp2
          exact ⟨⟨k + 1, by omega, by simp, IB2⟩, by simp [intOf]; omega⟩
        · have qm : (c.op == 272) = false := by simp [hmv]
          have HMV := Lib.hid hmv
          have HKC := Lib.hid (Blk.newAt wa (N := wa.heap.size) 48 #[.int .i64 c.op, .int .u64 (c.n : Int), .slice pA c.args.length pc, .slice qA m qc, .slice tA c.to.length tc] rfl)
          have hIB2 : Below w2.heap.size w2 (wa.alloc (.cells #[.int .i64 c.op, .int .u64 (c.n : Int), .slice pA c.args.length pc, .slice qA m qc, .slice tA c.to.length tc] 48)) := IB.out.alloc hbz _
          clear hmv
          go_wp2_with fail
          clear g0 g1 g2 g3 g4
          obtain ⟨wo, hwo⟩ : ∃ wo, (wa.alloc (.cells #[.int .i64 c.op, .int .u64 (c.n : Int), .slice pA c.args.length pc, .slice qA m qc, .slice tA c.to.length tc] 48)) = wo := ⟨_, rfl⟩
          rw [hwo] at hIB2 ⊢
          have IB2 := Lib.hid hIB2
          clear hwo hIB2 HKC
          go_loopw [55] (fun i wr => ∃ j : Nat, j ≤ m ∧ i = .int .i64 j ∧ Hid (∃ q, wr = wo.drewN q)) (fun i _ => m - (intOf i).toNat)
          case atStart => exact ⟨0, by omega, rfl, Lib.hid ⟨0, rfl⟩⟩
          case round => as_aux_lemma =>
            obtain ⟨j, hj, rfl, IM⟩ := hrel
            obtain ⟨q1, hq1⟩ := IM.out
            have IB3 := Lib.hid (show Below w2.heap.size w2 wr by rw [hq1]; exact below_drewN IB2.out q1)
            have IMo := IM
            clear IM hq1
            obtain ⟨wp, rfl⟩ : ∃ wp : World, wp = wr := ⟨_, rfl⟩
            by_cases hjm : j < m
            · have hjm' : decide ((j : Int) < m) = true := by simp; omega
              have hjm2 : (j : Int) < m := by omega
              obtain ⟨o, ho⟩ : ∃ o, c.outs[j]? = some o := ⟨_, List.getElem?_eq_getElem (by rw [HM.out]; exact hjm)⟩
              have hor := HPL.out.2.1 o (List.mem_of_getElem? ho)
              have HOM := Lib.hid (List.mem_of_getElem? ho)
              have hbp : Below w.heap.size w wp := HB2.out.trans (IB3.out.mono HB2.out.size)
              have hoi := HOI.out.below hbp (Nat.le_refl _)
              rw [HM.out] at hoi
              obtain ⟨ob, oo, rfl, hob, hoc⟩ := hoi.cell ho
              obtain ⟨b, bo, B, cb, rfl, hb, hcl, hir⟩ := HLB.out.at HPb.out
              replace hcl := (IB3.out.cell (p := ⟨b, bo + k, none⟩) hb).trans hcl
              have hbp3 : b < wp.heap.size := Nat.lt_of_lt_of_le hb IB3.out.size
              obtain ⟨s, hs⟩ : ∃ s, pb.length = s := ⟨_, rfl⟩
              rw [hs] at hcl hir lm2
              have HS := Lib.hid hs
              have HI := Lib.hid hir
              obtain ⟨zo, rfl⟩ : ∃ z : Nat, o = z := ⟨o.toNat, by omega⟩
              have hzo : (zo : Int) < P := by have := HP.out; omega
              clear ho hbp hoi hir hs
              go_wp2_with fail
              clear hcl hoc
              go_loopw [64] (fun i wr => ∃ y : Nat, y ≤ s ∧ i = .int .i64 y ∧ Hid (∃ q, wr = wp.drewN q)) (fun i _ => s - (intOf i).toNat)
              case atStart => exact ⟨0, by omega, rfl, Lib.hid ⟨0, rfl⟩⟩
              case round => as_aux_lemma =>
                obtain ⟨y, hy, rfl, IM⟩ := hrel
                obtain ⟨q2, hq2⟩ := IM.out
                have IB4 := Lib.hid (show Below w2.heap.size w2 wr by rw [hq2]; exact below_drewN IB3.out q2)
                clear hq2
                obtain ⟨wq, rfl⟩ : ∃ wq : World, wq = wr := ⟨_, rfl⟩
                by_cases hys : y < s
                · have hys' : decide ((y : Int) < s) = true := by simp; omega
                  have hys2 : (y : Int) < s := by omega
                  obtain ⟨v, hv⟩ : ∃ v, pb[y]? = some v := ⟨_, List.getElem?_eq_getElem (by rw [HS.out]; exact hys)⟩
                  have hvl := ((HPB.out k pb HPb.out).2 v).1 (List.mem_of_getElem? hv)
                  have hvr := hvl.range HC.out
                  obtain ⟨zv, rfl⟩ : ∃ z : Nat, v = z := ⟨v.toNat, by omega⟩
                  have hzv : (zv : Int) < P := by have := HP.out; omega
                  obtain ⟨ab, ao, rfl, hab, hcv⟩ := (HI.out.below IB4.out (Nat.le_refl _)).cell hv
                  have hl := HRP.out.len
                  obtain ⟨xv, hxv⟩ : ∃ x, hs[zv]? = some x := ⟨_, List.getElem?_eq_getElem (by omega)⟩
                  obtain ⟨xo, hxo⟩ : ∃ x, hs[zo]? = some x := ⟨_, List.getElem?_eq_getElem (by omega)⟩
                  obtain ⟨b1, o1, e1, hb1, hc1⟩ := (HH2.out.below IB4.out (Nat.le_refl _)).cell hxv
                  obtain ⟨b2, o2, e2, hb2, hc2⟩ := (HH2.out.below IB4.out (Nat.le_refl _)).cell hxo
                  injection e1 with e1
                  injection e1 with e1 e1'
                  subst e1
                  subst e1'
                  injection e2 with e2
                  injection e2 with e2 e2'
                  subst e2
                  subst e2'
                  rw [Nat.zero_add] at hc1 hc2
                  have hne : zv ≠ zo → xv ≠ xo := fun hn => by
                    refine HRP.out.cl zv zo _ _ hxv hxo ⟨by omega, .inr (.inl ⟨k, c, HCK.out, HOM.out, .inl ⟨hvl, fun h => absurd h HMV.out⟩⟩)⟩
                  clear hv hvl hvr hxv hxo hl
                  by_cases hvo : zv = zo
                  · subst hvo
                    have qv : ((zv : Int) != (zv : Int)) = false := by simp
                    clear hne
                    go_wp2_with fail
                    go_quiet (fail)
                    go_wp2
                    exact ⟨⟨y + 1, by omega, by simp, Lib.hid (by obtain ⟨q, rfl⟩ := IM.out; exact ⟨_, drewN_drewN _ _ _⟩)⟩, by simp [intOf]; omega⟩
                  · have qv : ((zv : Int) != (zo : Int)) = true := by simp; omega
                    have qx : (xv == xo) = false := by simp [hne hvo]
                    have HVO := Lib.hid hvo
                    clear hne hvo
                    go_wp2_with fail
                    go_quiet (fail)
                    go_wp2
                    exact ⟨⟨y + 1, by omega, by simp, Lib.hid (by obtain ⟨q, rfl⟩ := IM.out; exact ⟨_, drewN_drewN _ _ _⟩)⟩, by simp [intOf]; omega⟩
                · have hys' : decide ((y : Int) < s) = false := by simp; omega
                  go_wp2
                  exact ⟨⟨j + 1, by omega, by simp, Lib.hid (by obtain ⟨q, rfl⟩ := IM.out; obtain ⟨q3, rfl⟩ := IMo.out; exact ⟨_, drewN_drewN _ _ _⟩)⟩, by simp [intOf]; omega⟩
            · have hjm' : decide ((j : Int) < m) = false := by simp; omega
              go_wp2
              exact ⟨⟨k + 1, by omega, by simp, IB3⟩, by simp [intOf]; omega⟩
      · have hlt' : decide ((k : Int) < n) = false := by simp; omega
        have HB4 := Lib.hid (HB2.out.trans (IB.out.mono HB2.out.size))
        go_wp2_with fail
        refine (alive_any _).mono ?_
        rintro en w3 ⟨rfl, hb⟩
        have HB5 := Lib.hid (HB4.out.trans (hb.mono HB4.out.size))
        clear hb
        go_wp2
        go_ret
        exact ⟨rfl, HB5.out⟩
end Go.Proofs.YtgmapikcpnffhaaGreat
