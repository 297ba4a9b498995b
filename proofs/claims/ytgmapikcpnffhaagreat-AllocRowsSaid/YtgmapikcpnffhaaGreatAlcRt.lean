/-
 The document's Fault and Right: which rows have no homes, and which homes may be.
 Conditions: Right is asked of such homes as may be.
-/
import Derived.Test.YtgmapikcpnffhaaGreatLRx
import Derived.Test.YtgmapikcpnffhaaGreatAPl
namespace Go.Proofs.YtgmapikcpnffhaaGreat
open Go.RowKit Go.Bk Go.Bk.Liv
set_option linter.unusedVariables false
set_option linter.unusedSimpArgs false
/-- what is wrong with a row -/
def FaultP (e : EnvD) (r : RowD) (x : Int) : Prop := (¬ CheckP e r ∧ x = 6) ∨ (CheckP e r ∧ 2032 < r.places ∧ x = 15) ∨ (CheckP e r ∧ r.places ≤ 2032 ∧ x = 0)
set_option maxRecDepth 100000 in
set_option maxHeartbeats 4000000 in
theorem fault_any (e : EnvD) (r : RowD) (ve vr : Value) (w : World) (he : EnvV w ve e) (hr : RowV w vr r) : Calls Tryz.prog 11 #[ve, vr] w fun en w' => ∃ x : Int, en = .returned (.int .i64 x) ∧ FaultP e r x ∧ Below w.heap.size w w' := by
 have HE := Lib.hid he
 have HR := Lib.hid hr
 obtain ⟨va, vb, vd, rfl, h1, h2, h3⟩ := he
 obtain ⟨vp, vq, vpar, vs, rfl, h4, h5, h6, h7⟩ := hr
 clear h1 h2 h3 h4 h5 h6 h7
 have HB0 := Lib.hid (al2 w (.cells #[va, .int .i64 e.imports, vb, vd, .bool e.mem] 26) (.cells #[vp, vq, .int .i64 r.places, vpar, vs] 31))
 have KR0 := Lib.hid (Blk.newAt (w.alloc (.cells #[va, .int .i64 e.imports, vb, vd, .bool e.mem] 26)) (N := w.heap.size + 1) 31 #[vp, vq, .int .i64 r.places, vpar, vs] (by simp))
 go_enter Tryz.func11, Tryz.ntmps11
 go_wp2_with fail
 (with_reducible refine (rcheck_any e r _ _ _ (HE.out.below HB0.out (Nat.le_refl _)) (HR.out.below HB0.out (Nat.le_refl _))).mono ?_)
 rintro en w1 ⟨b, rfl, hbc, hb1⟩
 have HB1 := Lib.hid (HB0.out.trans (hb1.mono HB0.out.size))
 have HBC := Lib.hid hbc
 have KR1 := Lib.hid (KR0.out.below hb1 KR0.out.lt)
 clear hb1 hbc
 cases b with
 | false =>
  go_wp2
  go_ret
  exact ⟨_, rfl, .inl ⟨(fun h => by have := HBC.out.2 h; cases this), rfl⟩, HB1.out⟩
 | true =>
  have HC := Lib.hid (HBC.out.1 rfl)
  obtain ⟨P, hP⟩ : ∃ P : Nat, r.places = P := ⟨r.places.toNat, by have := HC.out.p1; omega⟩
  have HP := Lib.hid hP
  rw [hP] at KR1
  clear hP KR0
  obtain ⟨r0, r1, r2, r3, r4⟩ := blk5 KR1.out
  have y1 := KR1.out.lt
  by_cases hbig : 2032 < P
  ·have t1 : decide ((2032 : Int) < (P : Int)) = true := by simp; omega
   have t1n : decide (2032 < P) = true := by simp; omega
   go_wp2
   go_ret
   exact ⟨_, rfl, .inr (.inl ⟨HC.out, by rw [HP.out]; omega, rfl⟩), HB1.out⟩
  ·have t1 : decide ((2032 : Int) < (P : Int)) = false := by simp; omega
   have t1n : decide (2032 < P) = false := by simp; omega
   go_wp2
   go_ret
   exact ⟨_, rfl, .inr (.inr ⟨HC.out, by rw [HP.out]; omega, rfl⟩), HB1.out⟩
set_option maxRecDepth 100000 in
set_option maxHeartbeats 16000000 in
theorem right_any (e : EnvD) (r : RowD) (ve vr vh : Value) (hs : List Int) (P : Nat) (w : World) (he : EnvV w ve e) (hr : RowV w vr r) (hc : CheckP e r) (hP : r.places = P) (hP2 : P ≤ 2032) (hR : RightP r P hs) (hh : IR w vh hs) :
  Calls Tryz.prog 13 #[ve, vr, vh] w fun en w' => en = .returned (.bool true) ∧ Below w.heap.size w w' := by
 have HE := Lib.hid he
 have HR0 := Lib.hid hr
 obtain ⟨va, vb, vd, rfl, h1, h2, h3⟩ := he
 obtain ⟨vp, vq, vpar, vs, rfl, h4, h5, h6, h7⟩ := hr
 clear h1 h2 h3 h4 h5 h6 h7
 have HHI := Lib.hid hh
 obtain ⟨Ah, ch, rfl, _⟩ := hh
 have HLN := Lib.hid hR.len
 rw [hR.len] at HHI ⊢
 rw [hP] at HR0 ⊢
 have HC := Lib.hid hc
 have HP := Lib.hid hP
 have HRP := Lib.hid hR
 clear hc hP hR
 have HB0 := Lib.hid (al2 w (.cells #[va, .int .i64 e.imports, vb, vd, .bool e.mem] 26) (.cells #[vp, vq, .int .i64 (P : Int), vpar, vs] 31))
 have KR0 := Lib.hid (Blk.newAt (w.alloc (.cells #[va, .int .i64 e.imports, vb, vd, .bool e.mem] 26)) (N := w.heap.size + 1) 31 #[vp, vq, .int .i64 (P : Int), vpar, vs] (by simp))
 have KE0 := Lib.hid (Blk.alloc (Blk.new w 26 #[va, .int .i64 e.imports, vb, vd, .bool e.mem]) (.cells #[vp, vq, .int .i64 (P : Int), vpar, vs] 31))
 obtain ⟨r0, r1, r2, r3, r4⟩ := blk5 KR0.out
 have y1 := KR0.out.lt
 have tP : ((P : Int) != (P : Int)) = false := by simp
 obtain ⟨sP, hsP⟩ : ∃ s, 16 + P = s := ⟨_, rfl⟩
 have wP : IntKind.i64.wrap (16 + (P : Int)) = (sP : Int) := by rw [show (16 : Int) + (P : Int) = (sP : Int) by omega]; exact IntWalk.i64_in _ (by omega)
 go_enter Tryz.func13, Tryz.ntmps13
 go_wp2_with fail
 clear r0 r1 r2 r3 r4 y1
 obtain ⟨w0, hw0⟩ : ∃ w0, (w.alloc (.cells #[va, .int .i64 e.imports, vb, vd, .bool e.mem] 26)).alloc (.cells #[vp, vq, .int .i64 (P : Int), vpar, vs] 31) = w0 := ⟨_, rfl⟩
 rw [hw0] at HB0 KR0 KE0 ⊢
 clear hw0
 have HH0 := Lib.hid (HHI.out.below HB0.out (Nat.le_refl _))
 go_loopw [7, 8] (fun mv i wr => ∃ (k : Nat) (M : Int), k ≤ P ∧ i = .int .i64 k ∧ mv = .int .i64 M ∧ 15 ≤ M ∧ M ≤ 2048 ∧ Hid (M = 15 ∨ M ∈ hs) ∧ Hid (∃ q, wr = w0.drewN q)) (fun _ i _ => P - (intOf i).toNat)
 case atStart => exact ⟨0, 15, by omega, rfl, rfl, by omega, by omega, Lib.hid (.inl rfl), Lib.hid ⟨0, rfl⟩⟩
 case round =>
  obtain ⟨k, M, hk, rfl, rfl, hM1, hM2, HM, HW⟩ := hrel
  obtain ⟨q, hq⟩ := HW.out
  subst hq
  have HBr := Lib.hid (below_drewN HB0.out q)
  obtain ⟨r0, r1, r2, r3, r4⟩ := blk5 KR0.out
  have y1 := KR0.out.lt
  by_cases hkP : k < P
  ·have t1 : decide ((k : Int) < P) = true := by simp; omega
   have t2 : (k : Int) < P := by omega
   obtain ⟨x, hx⟩ : ∃ x, hs[k]? = some x := ⟨_, List.getElem?_eq_getElem (by rw [HLN.out]; exact hkP)⟩
   have hxo := HRP.out.ok x (List.mem_of_getElem? hx)
   obtain ⟨hb, ho, rfl, hhb, hcx⟩ := HH0.out.cell hx
   obtain ⟨zx, rfl⟩ : ∃ z : Nat, x = z := ⟨x.toNat, by omega⟩
   have s1 : decide ((zx : Int) < 0) = false := by simp
   have s2 : ((zx : Int) == 15) = false := by simp; omega
   have s3 : decide ((sP : Int) ≤ (zx : Int)) = false := by simp; omega
   have s3n : decide (sP ≤ zx) = false := by simp; omega
   have HX := Lib.hid hx
   have HXM := Lib.hid (List.mem_of_getElem? hx)
   have hx2 : zx < 2048 := by omega
   have HMX := Lib.hid (show max M (zx : Int) = 15 ∨ max M (zx : Int) ∈ hs from by
    rcases Int.le_total M zx with h | h
    ·rw [Int.max_eq_right h]; exact .inr HXM.out
    ·rw [Int.max_eq_left h]; exact HM.out)
   by_cases h7 : P ≤ 7
   ·have s4 : decide ((P : Int) ≤ 7) = true := by simp; omega
    have s5 : decide ((16 : Int) ≤ (zx : Int)) = false := by have := hxo.2.2.2 h7; simp; omega
    clear hx hxo h7
    go_wp2_with fail
    go_quiet (fail)
    go_wp2_with fail
    exact ⟨⟨k + 1, max M zx, by omega, by simp, rfl, by omega, by omega, HMX, Lib.hid ⟨_, rfl⟩⟩, by simp [intOf]; omega⟩
   ·have s4 : decide ((P : Int) ≤ 7) = false := by simp; omega
    clear hx hxo h7
    go_wp2_with fail
    go_quiet (fail)
    go_wp2_with fail
    exact ⟨⟨k + 1, max M zx, by omega, by simp, rfl, by omega, by omega, HMX, Lib.hid ⟨_, rfl⟩⟩, by simp [intOf]; omega⟩
  ·as_aux_lemma =>
   have t1 : decide ((k : Int) < P) = false := by simp; omega
   have HW0 := Lib.hid (show ∃ q', w0.drewN q = w0.drewN q' from ⟨q, rfl⟩)
   obtain ⟨wa, hwa⟩ : ∃ wa, w0.drewN q = wa := ⟨_, rfl⟩
   rw [hwa] at HW0 HBr HW ⊢
   clear hwa r0 r1 r2 r3 r4 y1
   go_wp2_with fail
   go_loopw [9] (fun sv wr => ∃ s : Nat, 16 ≤ s ∧ (s : Int) ≤ M + 1 ∧ sv = .int .i64 s ∧ Hid (∃ q, wr = w0.drewN q)) (fun sv _ => (M + 1 - intOf sv).toNat)
   case atStart => exact ⟨16, by omega, by omega, rfl, HW0⟩
   case round =>
    as_aux_lemma =>
    clear HW0 HW HBr t1
    obtain ⟨s, hs1, hs2, rfl, HW⟩ := hrel
    obtain ⟨q, hq⟩ := HW.out
    subst hq
    by_cases hsM : (s : Int) ≤ M
    ·have t1 : decide ((s : Int) ≤ M) = true := by simpa using hsM
     have HIN := Lib.hid (show (s : Int) ∈ hs from by
      rcases HM.out with h | h
      ·omega
      ·exact HRP.out.gap s M (by omega) h hsM)
     go_wp2_with fail
     go_loopw [10, 11] (fun tv i wr => ∃ k : Nat, k ≤ P ∧ i = .int .i64 k ∧ tv = .bool (decide ((s : Int) ∈ hs.take k)) ∧ Hid (∃ q, wr = w0.drewN q)) (fun _ i _ => P - (intOf i).toNat)
     case atStart => exact ⟨0, by omega, rfl, by simp, HW⟩
     case round =>
      clear HW
      obtain ⟨k, hk, rfl, rfl, HW⟩ := hrel
      obtain ⟨q, hq⟩ := HW.out
      subst hq
      by_cases hkP : k < P
      ·have t2 : decide ((k : Int) < P) = true := by simp; omega
       have t3 : (k : Int) < P := by omega
       obtain ⟨x, hx⟩ : ∃ x, hs[k]? = some x := ⟨_, List.getElem?_eq_getElem (by rw [HLN.out]; exact hkP)⟩
       obtain ⟨hb, ho, rfl, hhb, hcx⟩ := HH0.out.cell hx
       have htk := take_step (y := (s : Int)) hx
       have HTK := Lib.hid htk
       clear hx htk
       by_cases hin : (s : Int) ∈ hs.take k
       ·have hd := decide_eq_true hin
        have HD := Lib.hid (show decide ((s : Int) ∈ hs.take (k + 1)) = true from decide_eq_true (HTK.out.2 (.inl hin)))
        rw [hd]
        clear hin hd
        go_wp2_with fail
        exact ⟨⟨k + 1, by omega, by simp, by rw [HD.out], HW⟩, by simp [intOf]; omega⟩
       ·have hd := decide_eq_false hin
        rw [hd]
        by_cases hxs : x = (s : Int)
        ·have t4 : (x == (s : Int)) = true := by simp [hxs]
         have HD := Lib.hid (show decide ((s : Int) ∈ hs.take (k + 1)) = true from decide_eq_true (HTK.out.2 (.inr hxs.symm)))
         clear hin hd hxs
         go_wp2_with fail
         exact ⟨⟨k + 1, by omega, by simp, by rw [HD.out], HW⟩, by simp [intOf]; omega⟩
        ·have t4 : (x == (s : Int)) = false := by simp [hxs]
         have HD := Lib.hid (show decide ((s : Int) ∈ hs.take (k + 1)) = false from decide_eq_false (fun h => by
          rcases HTK.out.1 h with h | h
          ·exact hin h
          ·exact hxs h.symm))
         clear hin hd hxs
         go_wp2_with fail
         exact ⟨⟨k + 1, by omega, by simp, by rw [HD.out], HW⟩, by simp [intOf]; omega⟩
      ·have t2 : decide ((k : Int) < P) = false := by simp; omega
       have hd : decide ((s : Int) ∈ hs.take k) = true := by rw [List.take_of_length_le (by rw [HLN.out]; omega)]; exact decide_eq_true HIN.out
       rw [hd]
       clear hd
       go_wp2_with fail
       exact ⟨⟨s + 1, by omega, by omega, by simp, HW⟩, by simp [intOf]; omega⟩
    ·as_aux_lemma =>
     have t1 : decide ((s : Int) ≤ M) = false := by simpa using hsM
     have HBq := Lib.hid (below_drewN HB0.out q)
     have KRq := Lib.hid (KR0.out.drewN q)
     have KEq := Lib.hid (KE0.out.drewN q)
     have HHq := Lib.hid (HH0.out.drewN q)
     obtain ⟨wa, hwa⟩ : ∃ wa, w0.drewN q = wa := ⟨_, rfl⟩
     rw [hwa] at HBq KRq KEq HHq HW ⊢
     clear hwa HW KR0 KE0 HH0 HB0
     obtain ⟨r0, r1, r2, r3, r4⟩ := blk5 KRq.out
     obtain ⟨e0, e1, e2, e3, e4⟩ := blk5 KEq.out
     have y1 := KRq.out.lt
     have y2 := KEq.out.lt
     go_wp2_with fail
     (with_reducible refine (rClash_any e r _ _ _ (HE.out.below HBq.out (Nat.le_refl _)) (HR0.out.below HBq.out (Nat.le_refl _))).mono ?_)
     rintro en w2 (⟨hnc, _, _⟩ | ⟨_, vC, rfl, hT, hb2⟩)
     ·exact absurd HC.out hnc
     rw [show r.places.toNat = P from by rw [HP.out]; rfl] at hT
     obtain ⟨AC, cC, rfl⟩ := hT.shape
     have HT := Lib.hid hT
     have HB2 := Lib.hid (HBq.out.trans (hb2.mono HBq.out.size))
     have KR2 := Lib.hid (KRq.out.below hb2 KRq.out.lt)
     have KE2 := Lib.hid (KEq.out.below hb2 KEq.out.lt)
     have HH2 := Lib.hid (HHq.out.below hb2 (Nat.le_refl _))
     clear hT hb2 r0 r1 r2 r3 r4 e0 e1 e2 e3 e4 y1 y2 KRq KEq HHq HBq t1
     have HW0 := Lib.hid (show ∃ q', w2 = w2.drewN q' from ⟨0, rfl⟩)
     go_wp2_with fail
     go_loopw [14] (fun i wr => ∃ k : Nat, k ≤ P ∧ i = .int .i64 k ∧ Hid (∃ q, wr = w2.drewN q)) (fun i _ => P - (intOf i).toNat)
     case atStart => exact ⟨0, by omega, rfl, HW0⟩
     case round =>
      as_aux_lemma =>
      clear HW0
      obtain ⟨k, hk, rfl, HW⟩ := hrel
      obtain ⟨q, hq⟩ := HW.out
      subst hq
      by_cases hkP : k < P
      ·have t2 : decide ((k : Int) < P) = true := by simp; omega
       have t3 : (k : Int) < P := by omega
       obtain ⟨cl, hcl⟩ := HT.out.get hkP
       obtain ⟨b1, o1, B1, k1, rfl, hb1, hc1, hir⟩ := HT.out.first hkP hcl
       have hcz := hcl.small HC.out (fun x hx => hx.range HC.out)
       obtain ⟨m, hm⟩ : ∃ m, cl.length = m := ⟨_, rfl⟩
       rw [hm] at hc1 hir hcz
       have HM1 := Lib.hid hm
       have HIR := Lib.hid hir
       have HCL := Lib.hid hcl
       obtain ⟨xa, hxa⟩ : ∃ x, hs[k]? = some x := ⟨_, List.getElem?_eq_getElem (by rw [HLN.out]; exact hkP)⟩
       have HXA := Lib.hid hxa
       obtain ⟨hb, ho, rfl, hhb, hcx⟩ := HH2.out.cell hxa
       clear hcl hir hm hxa
       go_wp2_with fail
       go_loopw [15] (fun i wr => ∃ j : Nat, j ≤ m ∧ i = .int .i64 j ∧ Hid (∃ q, wr = w2.drewN q)) (fun i _ => m - (intOf i).toNat)
       case atStart => exact ⟨0, by omega, rfl, HW⟩
       case round =>
        clear HW
        obtain ⟨j, hj, rfl, HW⟩ := hrel
        obtain ⟨q, hq⟩ := HW.out
        subst hq
        by_cases hjm : j < m
        ·have t4 : decide ((j : Int) < m) = true := by simp; omega
         have t5 : (j : Int) < m := by omega
         obtain ⟨y, hy⟩ : ∃ y, cl[j]? = some y := ⟨_, List.getElem?_eq_getElem (by rw [HM1.out]; exact hjm)⟩
         have hcy := (HCL.out.2 y).1 (List.mem_of_getElem? hy)
         have hyr := Clashes.range HC.out hcy
         rw [HP.out] at hyr
         obtain ⟨zy, rfl⟩ : ∃ z : Nat, y = z := ⟨y.toNat, by omega⟩
         have hzy : zy < P := by omega
         have hzi : (zy : Int) < P := by omega
         obtain ⟨cb, co, rfl, hcb, hcy2⟩ := HIR.out.cell hy
         obtain ⟨xb, hxb⟩ : ∃ x, hs[zy]? = some x := ⟨_, List.getElem?_eq_getElem (by rw [HLN.out]; exact hzy)⟩
         obtain ⟨hb', ho', e1, _, hcx2⟩ := HH2.out.cell hxb
         injection e1 with e1
         injection e1 with e1 e2
         subst e1
         subst e2
         have hne := HRP.out.cl k zy xa xb HXA.out hxb hcy
         have t6 : (xa == xb) = false := by simpa using hne
         clear hy hcy hyr hxb hne
         go_wp2_with fail
         go_quiet (fail)
         go_wp2_with fail
         exact ⟨⟨j + 1, by omega, by simp, Lib.hid ⟨_, rfl⟩⟩, by simp [intOf]; omega⟩
        ·have t4 : decide ((j : Int) < m) = false := by simp; omega
         go_wp2_with fail
         exact ⟨⟨k + 1, by omega, by simp, HW⟩, by simp [intOf]; omega⟩
      ·as_aux_lemma =>
       have t2 : decide ((k : Int) < P) = false := by simp; omega
       have HBq := Lib.hid (below_drewN HB2.out q)
       have KRq := Lib.hid (KR2.out.drewN q)
       have KEq := Lib.hid (KE2.out.drewN q)
       have HHq := Lib.hid (HH2.out.drewN q)
       obtain ⟨wa, hwa⟩ : ∃ wa, w2.drewN q = wa := ⟨_, rfl⟩
       rw [hwa] at HBq KRq KEq HHq HW ⊢
       clear hwa HW KR2 KE2 HH2 HB2 HT
       obtain ⟨r0, r1, r2, r3, r4⟩ := blk5 KRq.out
       obtain ⟨e0, e1, e2, e3, e4⟩ := blk5 KEq.out
       have y1 := KRq.out.lt
       have y2 := KEq.out.lt
       go_wp2_with fail
       (with_reducible refine (rAcross_any e r _ _ _ (HE.out.below HBq.out (Nat.le_refl _)) (HR0.out.below HBq.out (Nat.le_refl _))).mono ?_)
       rintro en w3 (⟨hnc, _, _⟩ | ⟨_, v3, pl, rfl, ho3, hpl, hset, hb3⟩)
       ·exact absurd HC.out hnc
       obtain ⟨Aa, ca, rfl, _⟩ := own_shape ho3
       have HSET := Lib.hid hset
       have HA3 := Lib.hid (IR.own ho3)
       obtain ⟨mp, hmp⟩ : ∃ m, pl.length = m := ⟨_, rfl⟩
       have HMP := Lib.hid hmp
       rw [hmp] at HA3 hpl ⊢
       have HB3 := Lib.hid (HBq.out.trans (hb3.mono HBq.out.size))
       have HH3 := Lib.hid (HHq.out.below hb3 (Nat.le_refl _))
       have HW0 := Lib.hid (show ∃ q', w3 = w3.drewN q' from ⟨0, rfl⟩)
       clear ho3 hset hmp hb3 r0 r1 r2 r3 r4 e0 e1 e2 e3 e4 y1 y2 KRq KEq HHq HBq t2
       go_wp2_with fail
       go_loopw [18] (fun i wr => ∃ j : Nat, j ≤ mp ∧ i = .int .i64 j ∧ Hid (∃ q, wr = w3.drewN q)) (fun i _ => mp - (intOf i).toNat)
       case atStart => exact ⟨0, by omega, rfl, HW0⟩
       case round =>
        clear HW0
        obtain ⟨j, hj, rfl, HW⟩ := hrel
        obtain ⟨q, hq⟩ := HW.out
        subst hq
        by_cases hjm : j < mp
        ·have t4 : decide ((j : Int) < mp) = true := by simp; omega
         have t5 : (j : Int) < mp := by omega
         obtain ⟨y, hy⟩ : ∃ y, pl[j]? = some y := ⟨_, List.getElem?_eq_getElem (by rw [HMP.out]; exact hjm)⟩
         have hcy := (HSET.out.2 y).1 (List.mem_of_getElem? hy)
         have hyr := AcrossP.range HC.out hcy
         rw [HP.out] at hyr
         obtain ⟨zy, rfl⟩ : ∃ z : Nat, y = z := ⟨y.toNat, by omega⟩
         have hzy : zy < P := by omega
         have hzi : (zy : Int) < P := by omega
         obtain ⟨cb, co, rfl, hcb, hcy2⟩ := HA3.out.cell hy
         obtain ⟨xb, hxb⟩ : ∃ x, hs[zy]? = some x := ⟨_, List.getElem?_eq_getElem (by rw [HLN.out]; exact hzy)⟩
         obtain ⟨hb', ho', rfl, hhb, hcx2⟩ := HH3.out.cell hxb
         have h8 := HRP.out.ac zy xb hxb hcy
         have t6 : decide (xb < 8) = false := by simp; omega
         clear hy hcy hyr hxb h8
         go_wp2_with fail
         exact ⟨⟨j + 1, by omega, by simp, HW⟩, by simp [intOf]; omega⟩
        ·have t4 : decide ((j : Int) < mp) = false := by simp; omega
         go_wp2_with fail
         go_ret
         exact ⟨rfl, below_drewN HB3.out q⟩
end Go.Proofs.YtgmapikcpnffhaaGreat
