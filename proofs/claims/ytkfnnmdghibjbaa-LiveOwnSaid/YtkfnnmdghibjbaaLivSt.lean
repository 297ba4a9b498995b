/-
  LiveSteps: what is live ahead of an instruction is its Args, and what is live behind it but its Outs.
  Conditions: none.
-/
import Derived.Test.YtkfnnmdghibjbaaLivMu
namespace Go.Bk.Liv
open Go Go.RowKit Go.Bk
/-- live ahead: an Arg, or live behind and no Out -/
theorem live_iff {r : RowD} {i : Nat} {c : CodeD} (hc : r.code[i]? = some c) (x : Int) : Live r i x ↔ x ∈ c.args ∨ (LiveB r i x ∧ x ∉ c.outs) := by
  constructor
  · intro h
    obtain ⟨c', hc', h⟩ := h.cases'
    rw [hc] at hc'
    injection hc' with hc'
    subst hc'
    exact h
  · rintro (h | ⟨h, ho⟩)
    · exact .arg hc h
    · exact h.ahead hc ho
end Go.Bk.Liv
namespace Go.Proofs.Ytkfnnmdghibjbaa
open Go.RowKit Go.Bk Go.Bk.Liv
set_option linter.unusedVariables false
set_option linter.unusedSimpArgs false
theorem has_q {v : Value} {l : List Int} {x : Int} {w : World} {n : Nat} {b : Bool} (hs : IR w v l) (hm : l.length ≤ 9223372036854775806) (hb : decide (x ∈ l) = b) :
    Calls Try.prog 17 #[v, .int .i64 x] (w.drewN n) fun e w' => e = .returned (.bool b) ∧ w' = w.drewN n := by
  subst hb
  exact (has_any v l x _ (hs.drewN n) hm).mono fun _ _ h => ⟨h.1, h.2.symm⟩
set_option maxRecDepth 100000 in
set_option maxHeartbeats 8000000 in
theorem LiveSteps_walk (e : EnvD) (r : RowD) (ve vr : Value) (w : World) (he : EnvV w ve e) (hr : RowV w vr r) : Calls Try.prog 5 #[ve, vr] w (LawPost w) := by
  have HE := Lib.hid he
  have HR := Lib.hid hr
  obtain ⟨va, vb, vd, rfl, h1, h2, h3⟩ := he
  obtain ⟨vp, vq, vr, vs, rfl, h4, h5, h6, h7⟩ := hr
  obtain ⟨Ac, cc, rfl, _⟩ := h7.len
  obtain ⟨_, l7, l7'⟩ := h7.lenV
  have H7 := Lib.hid h7
  clear h1 h2 h3 h4 h5 h6 h7
  have HB0 := Lib.hid (al2 w (.cells #[va, .int .i64 e.imports, vb, vd, .bool e.mem] 26) (.cells #[vp, vq, .int .i64 r.places, vr, .slice Ac r.code.length cc] 31))
  have KE0 := Lib.hid (Blk.alloc (Blk.new w 26 #[va, .int .i64 e.imports, vb, vd, .bool e.mem]) (.cells #[vp, vq, .int .i64 r.places, vr, .slice Ac r.code.length cc] 31))
  have KR0 := Lib.hid (Blk.newAt (w.alloc (.cells #[va, .int .i64 e.imports, vb, vd, .bool e.mem] 26)) (N := w.heap.size + 1) 31 #[vp, vq, .int .i64 r.places, vr, .slice Ac r.code.length cc] (by simp))
  go_enter Try.func5, Try.ntmps5
  go_wp2_with fail
  (with_reducible refine (Ahead_any e r _ _ _ (HE.out.below HB0.out (Nat.le_refl _)) (HR.out.below HB0.out (Nat.le_refl _))).mono ?_)
  rintro en w1 (⟨hnc, rfl, hb⟩ | ⟨hc, v1, rfl, hT, hb⟩)
  · have HB := Lib.hid (HB0.out.trans (hb.mono HB0.out.size))
    have HNC := Lib.hid hnc
    have k1 := KR0.out.below hb KR0.out.lt
    have k2 := KE0.out.below hb KE0.out.lt
    obtain ⟨r0, r1, r2, r3, r4⟩ := blk5 k1
    obtain ⟨s0, s1, s2, s3, s4⟩ := blk5 k2
    have y1 := k1.lt
    have y2 := k2.lt
    clear hnc hb k1 k2
    go_wp2_with fail
    (with_reducible refine (Behind_any e r _ _ _ (HE.out.below HB.out (Nat.le_refl _)) (HR.out.below HB.out (Nat.le_refl _))).mono ?_)
    rintro en w2 (⟨_, rfl, hb⟩ | ⟨hc, _⟩)
    · have HB2 := Lib.hid (HB.out.trans (hb.mono HB.out.size))
      clear hb r0 r1 r2 r3 r4 s0 s1 s2 s3 s4 y1 y2
      go_wp2_with fail
      refine (alive_any _).mono ?_
      rintro en w3 ⟨rfl, hb⟩
      have HB3 := Lib.hid (HB2.out.trans (hb.mono HB2.out.size))
      clear hb
      go_wp2
      go_ret
      exact ⟨rfl, HB3.out⟩
    · exact absurd hc HNC.out
  · have HB := Lib.hid (HB0.out.trans (hb.mono HB0.out.size))
    have HC := Lib.hid hc
    have HT1 := Lib.hid hT
    have k1 := KR0.out.below hb KR0.out.lt
    have k2 := KE0.out.below hb KE0.out.lt
    have KR1 := Lib.hid k1
    obtain ⟨r0, r1, r2, r3, r4⟩ := blk5 k1
    obtain ⟨s0, s1, s2, s3, s4⟩ := blk5 k2
    have y1 := k1.lt
    have y2 := k2.lt
    clear hc hb k1 k2 hT
    go_wp2_with fail
    (with_reducible refine (Behind_any e r _ _ _ (HE.out.below HB.out (Nat.le_refl _)) (HR.out.below HB.out (Nat.le_refl _))).mono ?_)
    rintro en w2 (⟨hnc, _⟩ | ⟨_, v2, rfl, hT, hb⟩)
    · exact absurd HC.out hnc
    have HB2 := Lib.hid (HB.out.trans (hb.mono HB.out.size))
    have KR2 := Lib.hid (KR1.out.below hb KR1.out.lt)
    obtain ⟨PA, hLA, hPAl, hPA⟩ := (HT1.out.below hb).lists
    obtain ⟨PB, hLB, hPBl, hPB⟩ := hT.lists
    obtain ⟨A1, c1', rfl⟩ := hLA.shape
    obtain ⟨A2, c2', rfl⟩ := hLB.shape
    obtain ⟨n, hn⟩ : ∃ n, r.code.length = n := ⟨_, rfl⟩
    obtain ⟨P, hP⟩ : ∃ P : Nat, r.places = P := ⟨r.places.toNat, by have := HC.out.p1; omega⟩
    have hP4 : P ≤ 4096 := by have := HC.out.p2; omega
    have hn4 : n ≤ 4096 := by have := HC.out.n2; omega
    rw [hP] at KR2
    rw [hPAl, hn] at hLA ⊢
    rw [hPBl, hn] at hLB ⊢
    have HLA := Lib.hid hLA
    have HLB := Lib.hid hLB
    have HPA := Lib.hid hPA
    have HPB := Lib.hid hPB
    have HPAL := Lib.hid (hPAl.trans hn)
    have HPBL := Lib.hid (hPBl.trans hn)
    have HN := Lib.hid hn
    have HP := Lib.hid hP
    have q0 : ((n : Int) != (n : Int)) = false := by simp
    clear hb hT hLA hLB hPA hPB hPAl hPBl hP r0 r1 r2 r3 r4 s0 s1 s2 s3 s4 y1 y2
    obtain ⟨r0, r1, r2, r3, r4⟩ := blk5 KR2.out
    have y1 := KR2.out.lt
    rw [hn] at r4
    clear hn r0 r1 r2 r3
    go_wp2_with fail
    clear r4 y1
    go_loopw [57] (fun i wr => ∃ k : Nat, k ≤ n ∧ i = .int .i64 k ∧ Hid (Below w2.heap.size w2 wr)) (fun i _ => n - (intOf i).toNat)
    case atStart => exact ⟨0, by omega, rfl, Lib.hid (Below.refl _ _)⟩
    case round => as_aux_lemma =>
      obtain ⟨k, hk, rfl, IB⟩ := hrel
      obtain ⟨wa, rfl⟩ : ∃ wa : World, wa = wr := ⟨_, rfl⟩
      by_cases hlt : k < n
      · have hlt' : decide ((k : Int) < n) = true := by simp; omega
        have hlt2 : (k : Int) < n := by omega
        obtain ⟨c, hck⟩ : ∃ c, r.code[k]? = some c := ⟨_, List.getElem?_eq_getElem (by rw [HN.out]; exact hlt)⟩
        have hba : Below w.heap.size w wa := HB2.out.trans (IB.out.mono HB2.out.size)
        obtain ⟨gb, go, p, q, tt, rfl, hgb2, g0, g1, g2, g3, g4, s0, s1, s2, s3⟩ := H7.out.code hck
        replace g0 := (hba.cell (p := ⟨gb, _, none⟩) hgb2).trans g0
        replace g1 := (hba.cell (p := ⟨gb, _, none⟩) hgb2).trans g1
        replace g2 := (hba.cell (p := ⟨gb, _, none⟩) hgb2).trans g2
        replace g3 := (hba.cell (p := ⟨gb, _, none⟩) hgb2).trans g3
        replace g4 := (hba.cell (p := ⟨gb, _, none⟩) hgb2).trans g4
        obtain ⟨pA, pc, rfl⟩ := s1.shape
        obtain ⟨qA, qc, rfl⟩ := s2.shape
        obtain ⟨tA, tc, rfl⟩ := s3.shape
        obtain ⟨_, _, _, _, haL⟩ := s1.len
        obtain ⟨_, _, _, _, hoL⟩ := s2.len
        have hsz := hba.size
        have hgl : gb < wa.heap.size := by omega
        have hbz := IB.out.size
        have HAI := Lib.hid s1.ir
        have HOI := Lib.hid s2.ir
        have HCK := Lib.hid hck
        have HBA := Lib.hid hba
        have HAL := Lib.hid (show c.args.length ≤ 9223372036854775806 by omega)
        have HOL := Lib.hid (show c.outs.length ≤ 9223372036854775806 by omega)
        have hkr := KR2.out.below IB.out KR2.out.lt
        obtain ⟨r0, r1, r2, r3, r4⟩ := blk5 hkr
        have y1 := hkr.lt
        obtain ⟨pa, hpa⟩ : ∃ p, PA[k]? = some p := ⟨_, List.getElem?_eq_getElem (by rw [HPAL.out]; exact hlt)⟩
        obtain ⟨pb, hpb⟩ : ∃ p, PB[k]? = some p := ⟨_, List.getElem?_eq_getElem (by rw [HPBL.out]; exact hlt)⟩
        have HPa := Lib.hid hpa
        have HPb := Lib.hid hpb
        clear hck hba s0 s1 s2 s3 haL hoL hkr hpa hpb r0 r1 r3 r4
        go_wp2_with fail
        clear g0 g1 g2 g3 g4 r2 y1
        have HKC := Lib.hid (Blk.newAt wa (N := wa.heap.size) 43 #[.int .i64 c.op, .int .u64 (c.n : Int), .slice pA c.args.length pc, .slice qA c.outs.length qc, .slice tA c.to.length tc] rfl)
        have hIB2 : Below w2.heap.size w2 (wa.alloc (.cells #[.int .i64 c.op, .int .u64 (c.n : Int), .slice pA c.args.length pc, .slice qA c.outs.length qc, .slice tA c.to.length tc] 43)) := IB.out.alloc hbz _
        obtain ⟨wo, hwo⟩ : ∃ wo, (wa.alloc (.cells #[.int .i64 c.op, .int .u64 (c.n : Int), .slice pA c.args.length pc, .slice qA c.outs.length qc, .slice tA c.to.length tc] 43)) = wo := ⟨_, rfl⟩
        rw [hwo] at HKC hIB2 ⊢
        have IB2 := Lib.hid hIB2
        clear hwo hIB2
        go_loopw [64] (fun i wr => ∃ z : Nat, z ≤ P ∧ i = .int .i64 z ∧ Hid (∃ m, wr = wo.drewN m)) (fun i _ => P - (intOf i).toNat)
        case atStart => exact ⟨0, by omega, rfl, Lib.hid ⟨0, rfl⟩⟩
        case round => as_aux_lemma =>
          obtain ⟨z, hz, rfl, IM⟩ := hrel
          obtain ⟨wr', rfl⟩ : ∃ wr' : World, wr' = wr := ⟨_, rfl⟩
          obtain ⟨m, hm⟩ := IM.out
          have hkc : Blk wr' wa.heap.size 43 #[.int .i64 c.op, .int .u64 (c.n : Int), .slice pA c.args.length pc, .slice qA c.outs.length qc, .slice tA c.to.length tc] := by rw [hm]; exact HKC.out
          have hib3 : Below w2.heap.size w2 wr' := by rw [hm]; exact below_drewN IB2.out m
          have HKC3 := Lib.hid hkc
          have IB3 := Lib.hid hib3
          clear hm hkc hib3
          by_cases hzP : z < P
          · have hzP' : decide ((z : Int) < P) = true := by simp; omega
            have hzP2 : (z : Int) < P := by omega
            have f3 := HKC3.out.cell 2
            have f4 := HKC3.out.cell 3
            simp at f3 f4
            have y3 := HKC3.out.lt
            have hla := HLA.out.below IB3.out (Nat.le_refl _)
            have hlb := HLB.out.below IB3.out (Nat.le_refl _)
            obtain ⟨b, o, B, cb, rfl, hb, hcl, hir⟩ := hla.at HPa.out
            obtain ⟨b2, o2, B2, cb2, rfl, hb2, hcl2, hir2⟩ := hlb.at HPb.out
            have lm1 : pa.length ≤ 9223372036854775806 := by have := (HPA.out k pa HPa.out).small HC.out (fun x hx => hx.range HC.out); omega
            have lm2 : pb.length ≤ 9223372036854775806 := by have := (HPB.out k pb HPb.out).small HC.out (fun x hx => hx.range HC.out); omega
            have hboo := HB2.out.trans (IB3.out.mono HB2.out.size)
            have HI1 := Lib.hid hir
            have HI2 := Lib.hid hir2
            have HI3 := Lib.hid (HAI.out.below hboo (Nat.le_refl _))
            have HI4 := Lib.hid (HOI.out.below hboo (Nat.le_refl _))
            have lm3 := HAL.out
            have lm4 := HOL.out
            have hiff : (z : Int) ∈ pa ↔ ((z : Int) ∈ c.args ∨ ((z : Int) ∈ pb ∧ (z : Int) ∉ c.outs)) := by
              rw [(HPA.out k pa HPa.out).2 z, (HPB.out k pb HPb.out).2 z]
              exact live_iff HCK.out _
            clear hla hlb hir hir2 hboo
            by_cases e1 : (z : Int) ∈ c.args
            · have d1 : decide ((z : Int) ∈ c.args) = true := decide_eq_true e1
              have d0 : decide ((z : Int) ∈ pa) = true := decide_eq_true (hiff.2 (.inl e1))
              clear hiff e1
              go_wp2_with fail
              go_quiet ((go_at_call 17; first | exact Calls.quiet_of_same (has_q HI1.out lm1 d0) | exact Calls.quiet_of_same (has_q HI3.out lm3 d1)))
              go_wp2
              exact ⟨⟨z + 1, by omega, by simp, Lib.hid (by obtain ⟨m, rfl⟩ := IM.out; exact ⟨_, drewN_drewN _ _ _⟩)⟩, by simp [intOf]; omega⟩
            · have d1 : decide ((z : Int) ∈ c.args) = false := decide_eq_false e1
              by_cases e2 : (z : Int) ∈ pb
              · have d2 : decide ((z : Int) ∈ pb) = true := decide_eq_true e2
                by_cases e3 : (z : Int) ∈ c.outs
                · have d3 : decide ((z : Int) ∈ c.outs) = true := decide_eq_true e3
                  have d0 : decide ((z : Int) ∈ pa) = false := decide_eq_false (fun h => by rcases hiff.1 h with h | h; exact e1 h; exact h.2 e3)
                  clear hiff e1 e2 e3
                  go_wp2_with fail
                  go_quiet ((go_at_call 17; first | exact Calls.quiet_of_same (has_q HI1.out lm1 d0) | exact Calls.quiet_of_same (has_q HI3.out lm3 d1) | exact Calls.quiet_of_same (has_q HI2.out lm2 d2) | exact Calls.quiet_of_same (has_q HI4.out lm4 d3)))
                  go_wp2
                  exact ⟨⟨z + 1, by omega, by simp, Lib.hid (by obtain ⟨m, rfl⟩ := IM.out; exact ⟨_, drewN_drewN _ _ _⟩)⟩, by simp [intOf]; omega⟩
                · have d3 : decide ((z : Int) ∈ c.outs) = false := decide_eq_false e3
                  have d0 : decide ((z : Int) ∈ pa) = true := decide_eq_true (hiff.2 (.inr ⟨e2, e3⟩))
                  clear hiff e1 e2 e3
                  go_wp2_with fail
                  go_quiet ((go_at_call 17; first | exact Calls.quiet_of_same (has_q HI1.out lm1 d0) | exact Calls.quiet_of_same (has_q HI3.out lm3 d1) | exact Calls.quiet_of_same (has_q HI2.out lm2 d2) | exact Calls.quiet_of_same (has_q HI4.out lm4 d3)))
                  go_wp2
                  exact ⟨⟨z + 1, by omega, by simp, Lib.hid (by obtain ⟨m, rfl⟩ := IM.out; exact ⟨_, drewN_drewN _ _ _⟩)⟩, by simp [intOf]; omega⟩
              · have d2 : decide ((z : Int) ∈ pb) = false := decide_eq_false e2
                have d0 : decide ((z : Int) ∈ pa) = false := decide_eq_false (fun h => by rcases hiff.1 h with h | h; exact e1 h; exact e2 h.1)
                clear hiff e1 e2
                go_wp2_with fail
                go_quiet ((go_at_call 17; first | exact Calls.quiet_of_same (has_q HI1.out lm1 d0) | exact Calls.quiet_of_same (has_q HI3.out lm3 d1) | exact Calls.quiet_of_same (has_q HI2.out lm2 d2)))
                go_wp2
                exact ⟨⟨z + 1, by omega, by simp, Lib.hid (by obtain ⟨m, rfl⟩ := IM.out; exact ⟨_, drewN_drewN _ _ _⟩)⟩, by simp [intOf]; omega⟩
          · have hzP' : decide ((z : Int) < P) = false := by simp; omega
            have hbe3 : Below w.heap.size w wr' := HB2.out.trans (IB3.out.mono HB2.out.size)
            have hrow := HR.out.below hbe3 (Nat.le_refl _)
            rw [HP.out] at hrow
            have HROW := Lib.hid hrow
            have hkr := KR2.out.below IB3.out KR2.out.lt
            obtain ⟨r0, r1, r2, r3, r4⟩ := blk5 hkr
            have y1 := hkr.lt
            clear hrow hkr hbe3
            go_wp2_with fail
            (with_reducible refine (rnext_any r _ k c _ HROW.out HCK.out (HC.out.flow.to k c HCK.out).2.1).mono ?_)
            rintro en w7 ⟨vn, rfl, hir7, hb7⟩
            obtain ⟨An, cn, rfl⟩ := hir7.shape
            have hl66 := (HC.out.flow.to k c HCK.out).2.2
            obtain ⟨m7, hm7⟩ : ∃ m, (nextOf c k).length = m := ⟨_, rfl⟩
            have hzz3 := IB3.out.size
            have IB7 := Lib.hid (IB3.out.trans (hb7.mono hzz3))
            rw [hm7] at hir7 hl66 ⊢
            have HIR7 := Lib.hid hir7
            have HM7 := Lib.hid hm7
            clear hir7 hb7 hm7 r0 r1 r2 r3 r4 y1 HROW
            go_wp2_with fail
            go_loop [98] (fun i => ∃ j : Nat, j ≤ m7 ∧ i = .int .i64 j) (fun i => m7 - (intOf i).toNat)
            case atStart => exact ⟨0, by omega, rfl⟩
            case round => as_aux_lemma =>
              obtain ⟨j, hj, rfl⟩ := hrel
              by_cases hjm : j < m7
              · have hjm' : decide ((j : Int) < m7) = true := by simp; omega
                have hjm2 : (j : Int) < m7 := by omega
                obtain ⟨x, hx⟩ : ∃ x, (nextOf c k)[j]? = some x := ⟨_, List.getElem?_eq_getElem (by rw [HM7.out]; exact hjm)⟩
                have hxn := List.mem_of_getElem? hx
                have hxr := (HC.out.flow.to k c HCK.out).1 x hxn
                obtain ⟨q, rfl⟩ : ∃ q : Nat, x = q := ⟨x.toNat, by omega⟩
                have hqn : q < n := by rw [HN.out] at hxr; omega
                have hqn2 : (q : Int) < n := by omega
                obtain ⟨ab, ao, rfl, hab, hcl⟩ := HIR7.out.cell hx
                obtain ⟨pq, hpq⟩ : ∃ p, PA[q]? = some p := ⟨_, List.getElem?_eq_getElem (by rw [HPAL.out]; exact hqn)⟩
                obtain ⟨b, o, B, cb, rfl, hb, hcl1, hir⟩ := (HLA.out.below IB7.out (Nat.le_refl _)).at hpq
                obtain ⟨b2, o2, B2, cb2, rfl, hb2, hcl2, hir2⟩ := (HLB.out.below IB7.out (Nat.le_refl _)).at HPb.out
                have hps := (HPA.out q pq hpq).small HC.out (fun x hx => hx.range HC.out)
                have lm2 : pb.length ≤ 9223372036854775806 := by have := (HPB.out k pb HPb.out).small HC.out (fun x hx => hx.range HC.out); omega
                have HXN := Lib.hid hxn
                have HPQ := Lib.hid hpq
                obtain ⟨s, hs⟩ : ∃ s, pq.length = s := ⟨_, rfl⟩
                rw [hs] at hcl1 hir hps
                have HS := Lib.hid hs
                have HI := Lib.hid hir
                have HI2 := Lib.hid hir2
                clear hx hxn hxr hpq hs hir hir2
                go_wp2_with fail
                go_loop [107] (fun i => ∃ y : Nat, y ≤ s ∧ i = .int .i64 y) (fun i => s - (intOf i).toNat)
                case atStart => exact ⟨0, by omega, rfl⟩
                case round => as_aux_lemma =>
                  obtain ⟨y, hy, rfl⟩ := hrel
                  by_cases hys : y < s
                  · have hys' : decide ((y : Int) < s) = true := by simp; omega
                    have hys2 : (y : Int) < s := by omega
                    obtain ⟨v, hv⟩ : ∃ v, pq[y]? = some v := ⟨_, List.getElem?_eq_getElem (by rw [HS.out]; exact hys)⟩
                    obtain ⟨ab', ao', rfl, hab', hcl3⟩ := HI.out.cell hv
                    have HIN := Lib.hid (show v ∈ pb from ((HPB.out k pb HPb.out).2 v).2 ⟨c, HCK.out, q, HXN.out, ((HPA.out q pq HPQ.out).2 v).1 (List.mem_of_getElem? hv)⟩)
                    clear hv
                    go_wp2_with fail
                    (with_reducible refine (has_any _ pb v _ HI2.out lm2).mono ?_)
                    rintro en w8 ⟨rfl, rfl⟩
                    rw [decide_eq_true HIN.out]
                    go_wp2
                    exact ⟨⟨y + 1, by omega, by simp⟩, by simp [intOf]; omega⟩
                  · have hys' : decide ((y : Int) < s) = false := by simp; omega
                    go_wp2
                    exact ⟨⟨j + 1, by omega, by simp⟩, by simp [intOf]; omega⟩
              · have hjm' : decide ((j : Int) < m7) = false := by simp; omega
                go_wp2
                exact ⟨⟨k + 1, by omega, by simp, IB7⟩, by simp [intOf]; omega⟩
      · have hlt' : decide ((k : Int) < n) = false := by simp; omega
        have HB4 := Lib.hid (HB2.out.trans (IB.out.mono HB2.out.size))
        go_wp2_with fail
        refine (alive_any _).mono ?_
        rintro en w3 ⟨rfl, hb⟩
        have HB5 := Lib.hid (HB4.out.trans (hb.mono HB4.out.size))
        clear hb
        go_wp2
        go_ret
        exact ⟨rfl, HB5.out⟩
end Go.Proofs.Ytkfnnmdghibjbaa
