/-
 live.look: what is live in a row.
 Conditions: none.
-/
import Derived.Test.YtgmapikcpnffhaaGreatLLk
import Derived.Test.YtgmapikcpnffhaaGreatLGen
import Derived.Deep.RegionWith
import Derived.Deep.LoopGhost
import Derived.Deep.DeepCutAuto
namespace Go.Proofs.YtgmapikcpnffhaaGreat
open Go.RowKit Go.Bk Go.Bk.Liv
set_option linter.unusedVariables false
set_option linter.unusedSimpArgs false

theorem info_set : (Tryz.prog.info? 113).map (fun i => (i.zero, i.size, i.bytes)) = some (some (.map none), 1, 8) := by kernel_rfl
theorem info_bool : (Tryz.prog.info? 4).map (fun i => (i.zero, i.size, i.bytes)) = some (some (.bool false), 1, 1) := by kernel_rfl

theorem al3' (w : World) (a b c : Obj) : Below w.heap.size w (((w.alloc a).alloc b).alloc c) := al3 w a b c
set_option maxRecDepth 100000 in
set_option maxHeartbeats 8000000 in
theorem look_any (e : EnvD) (r : RowD) (ve vr : Value) (w : World) (he : EnvV w ve e) (hr : RowV w vr r) : Calls Tryz.prog 68 #[ve, vr] w (LookPost e r w) := by
 have HE := Lib.hid he
 have HR := Lib.hid hr
 obtain ⟨va, vb, vd, rfl, h1, h2, h3⟩ := he
 obtain ⟨As, cs, rfl, _⟩ := h1.len
 obtain ⟨Ag, cg, rfl⟩ := h2.shape
 obtain ⟨Am, cm, rfl, _⟩ := h3
 obtain ⟨vp, vq, vr, vs, rfl, h4, h5, h6, h7⟩ := hr
 obtain ⟨Ap, cp, rfl⟩ := h4.shape
 obtain ⟨Aq, cq, rfl⟩ := h5.shape
 obtain ⟨Ar, cr, rfl⟩ := h6.shape
 obtain ⟨Ac, cc, rfl, _⟩ := h7.len
 obtain ⟨_, l7, l7'⟩ := h7.lenV
 have H7 := Lib.hid h7
 have HB0 := Lib.hid (al2 w (.cells #[.slice As e.sigs.length cs, .int .i64 e.imports, .slice Ag e.globals.length cg, .slice Am e.muts.length cm, .bool e.mem] 26) (.cells #[.slice Ap r.sig.inn.length cp, .slice Aq r.sig.out.length cq, .int .i64 r.places, .slice Ar r.params.length cr, .slice Ac r.code.length cc] 31))
 have KR0 := Lib.hid (Blk.newAt (w.alloc (.cells #[.slice As e.sigs.length cs, .int .i64 e.imports, .slice Ag e.globals.length cg, .slice Am e.muts.length cm, .bool e.mem] 26)) (N := w.heap.size + 1) 31 #[.slice Ap r.sig.inn.length cp, .slice Aq r.sig.out.length cq, .int .i64 r.places, .slice Ar r.params.length cr, .slice Ac r.code.length cc] (by simp))
 clear h1 h2 h4 h5 h6 h7
 go_enter Tryz.func68, Tryz.ntmps68
 go_wp2_with fail
 refine (Check_any e r _ _ _ (HE.out.below HB0.out (Nat.le_refl _)) (HR.out.below HB0.out (Nat.le_refl _))).mono ?_
 rintro en w1 ⟨b, rfl, hbc, hb1⟩
 have HBC := Lib.hid hbc
 have HB1 := Lib.hid (HB0.out.trans (hb1.mono HB0.out.size))
 have KR1 := Lib.hid (KR0.out.below hb1 KR0.out.lt)
 clear hb1 hbc
 cases b with
 | false =>
  go_wp2
  go_ret2
  exact .inl ⟨(fun h => by have := HBC.out.2 h; cases this), rfl, HB1.out⟩
 | true =>
  have HC := Lib.hid (HBC.out.1 rfl)
  obtain ⟨n, hn⟩ : ∃ n, r.code.length = n := ⟨_, rfl⟩
  obtain ⟨rv, hrv⟩ : ∃ rv : Array Value, rv = #[.slice Ap r.sig.inn.length cp, .slice Aq r.sig.out.length cq, .int .i64 r.places, .slice Ar r.params.length cr, .slice Ac r.code.length cc] := ⟨_, rfl⟩
  obtain ⟨r0, r1, r2, r3, r4⟩ := blk5 KR1.out
  have y1 := KR1.out.lt
  rw [hn] at r4
  have hn1 : n ≤ 4096 := by have := HC.out.n2; omega
  have HN := Lib.hid hn
  have mk55 := run_mk (P := Tryz.prog) 112 113 (.map none) 8 Tryz.underlying112 info_set rfl n (by omega) (by omega)
  clear hn hrv r0 r1 r2 r3
  go_wp2_with fail
  go_cut [7] (fun f wx => ∃ gA gB : Nat, f = .pointer (some ⟨w1.heap.size + 1 + 1, 0, none⟩) ∧ Hid (Blk wx (w1.heap.size + 1 + 1) 117 #[.slice (some ⟨gA, 0, none⟩) n n, .slice (some ⟨gB, 0, none⟩) n n]) ∧ Hid (Blk wx gA 113 (setsV [] n)) ∧ Hid (Blk wx gB 113 (setsV [] n)) ∧ Hid (gA ≠ gB) ∧ Hid (w1.heap.size ≤ gA) ∧ Hid (w1.heap.size ≤ gB) ∧ Hid (Below w1.heap.size w1 wx))
  case first =>
   -- DEV sorry
   have e : setsV [] n = Array.replicate n (.map none) := by simp [setsV, mapsV]
   have HE2 := Lib.hid e
   clear e
   go_region
   ·go_wp2_with fail
    go_meet
    refine ⟨w1.heap.size, w1.heap.size + 1, rfl, Lib.hid ?_, Lib.hid ?_, Lib.hid ?_, Lib.hid (by omega), Lib.hid (by omega), Lib.hid (by omega), Lib.hid (al3' _ _ _ _).drew⟩
    ·refine Blk.drew (Blk.newAt _ _ _ ?_)
     simp
    ·rw [HE2.out]
     exact Blk.drew (Blk.alloc (Blk.alloc (Blk.new _ _ _) _) _)
    ·rw [HE2.out]
     refine Blk.drew (Blk.alloc (Blk.newAt _ _ _ ?_) _)
     simp
   ·go_wp2_with fail
    go_meet
    refine ⟨w1.heap.size + 1, w1.heap.size, rfl, Lib.hid ?_, Lib.hid ?_, Lib.hid ?_, Lib.hid (by omega), Lib.hid (by omega), Lib.hid (by omega), Lib.hid (al3' _ _ _ _).drew⟩
    ·refine Blk.drew (Blk.newAt _ _ _ ?_)
     simp
    ·rw [HE2.out]
     refine Blk.drew (Blk.alloc (Blk.newAt _ _ _ ?_) _)
     simp
    ·rw [HE2.out]
     exact Blk.drew (Blk.alloc (Blk.alloc (Blk.new _ _ _) _) _)
   -- END
  case rest =>
   clear mk55
   obtain ⟨wd, rfl⟩ : ∃ wd : World, wd = wc := ⟨_, rfl⟩
   obtain ⟨gA, gB, rfl, KF, KA, KB, HAB, HA0, HB0', HBc⟩ := hcut
   have hb2 := HBc.out.size
   have mk32 := run_mk (P := Tryz.prog) 43 23 (.slice none 0 0) 24 Tryz.underlying43 info_ints rfl n (by omega) (by omega)
   have mk23 := run_mk (P := Tryz.prog) 23 3 (.int .i64 0) 8 Tryz.underlying23 info_int rfl n (by omega) (by omega)
   have mk24 := run_mk (P := Tryz.prog) 24 4 (.bool false) 1 Tryz.underlying24 info_bool rfl n (by omega) (by omega)
   clear r4
   have KR2 := Lib.hid (KR1.out.below HBc.out KR1.out.lt)
   obtain ⟨gF, hgF⟩ : ∃ gF, w1.heap.size + 1 + 1 = gF := ⟨_, rfl⟩
   rw [hgF] at KF ⊢
   have HGF := Lib.hid hgF
   clear hgF
   have hs0 : Below w.heap.size w wd := HB1.out.trans (HBc.out.mono HB1.out.size)
   have S0 := Lib.hid hs0
   clear hs0
   go_wp2
   have hr0 : InRel r n w.heap.size (w.heap.size + 1) gF gA gB wd.heap.size (wd.heap.size + 1 + 1) (wd.heap.size + 1) #[.slice Ap r.sig.inn.length cp, .slice Aq r.sig.out.length cq, .int .i64 r.places, .slice Ar r.params.length cr, .slice Ac r.code.length cc] w 0 [] 0 (((wd.alloc (.cells (Array.replicate n (.slice none 0 0)) 23)).alloc (.cells (Array.replicate n (.int .i64 0)) 3)).alloc (.cells (Array.replicate n (.bool false)) 4)) := by
    have q1 := S0.out.size
    have q2 := HB1.out.size
    have q3 := HA0.out
    have q4 := HB0'.out
    have q5 := HGF.out
    refine ⟨[], [], List.replicate n (.slice none 0 0), List.replicate n [], rfl, rfl, { r := ((KR2.out.alloc _).alloc _).alloc _, f := ((KF.out.alloc _).alloc _).alloc _, a := ((KA.out.alloc _).alloc _).alloc _, b := ((KB.out.alloc _).alloc _).alloc _, la := rfl, lb := rfl, ma := fun i b s h => by simp at h, mb := fun i b s h => by simp at h, nd := by simp, fr := ?_, rf := ⟨by simp, fun i u p h1 h2 => ?_⟩, w := ?_, lR := by omega, lF := by omega, lA := by omega, lB := by omega, lr := by omega, lW := by omega, lm := fun b h => by simp at h, hab := HAB.out }, ⟨fun i j a b g hij h1 h2 h3 => ?_, fun a ha g hg => ?_⟩, ?_, FromK.start HN.out, S0.out.trans ((al3' _ _ _ _).mono q1)⟩
    ·have e : (List.replicate n (Value.slice none 0 0)).toArray = Array.replicate n (.slice none 0 0) := by simp
     rw [e]
     exact ((Blk.new _ _ _).alloc _).alloc _
    ·obtain ⟨_, e1⟩ := List.getElem?_eq_some_iff.1 h1
     obtain ⟨_, e2⟩ := List.getElem?_eq_some_iff.1 h2
     simp at e1 e2
     subst e1
     subst e2
     exact World.ownsRow_nil _ _ _ _
    ·have e : (boolsV (List.replicate 0 true ++ List.replicate (n - 0) false)).toArray = Array.replicate n (.bool false) := by simp [boolsV]
     rw [e]
     refine Blk.newAt _ _ _ ?_
     simp
    ·obtain ⟨_, e1⟩ := List.getElem?_eq_some_iff.1 h1
     simp at e1
     subst e1
     cases h3
    ·have := List.eq_of_mem_replicate ha
     subst this
     cases hg
    ·have e : i64s (rng 0 ++ List.replicate (n - 0) 0) = (Array.replicate n (Value.int .i64 0)).toList := by simp [i64s, rng]
     rw [e]
     refine Blk.own (Blk.alloc (Blk.newAt _ _ _ ?_) _) (by omega) (by simp) (by unfold maxLen; omega)
     simp
   have HI0 := Lib.hid hr0
   clear hr0 mk32 mk23 mk24
   go_loopw [42] (fun i wr => ∃ k : Nat, k ≤ n ∧ i = .int .i64 k ∧ Hid (InRel r n w.heap.size (w.heap.size + 1) gF gA gB wd.heap.size (wd.heap.size + 1 + 1) (wd.heap.size + 1) #[.slice Ap r.sig.inn.length cp, .slice Aq r.sig.out.length cq, .int .i64 r.places, .slice Ar r.params.length cr, .slice Ac r.code.length cc] w k [] k wr)) (fun i _ => n - (intOf i).toNat)
   case atStart => exact ⟨0, by omega, rfl, HI0⟩
   case round => as_aux_lemma =>
    obtain ⟨k, hk, rfl, IM1⟩ := hrel
    by_cases hlt : k < n
    -- DEV ·_sorry
    ·have hlt' : decide ((k : Int) < n) = true := by simp; omega
     have hlt2 : (k : Int) < n := by omega
     go_wp2_with fail
     go_cut [] (fun wx => Hid (InRel r n w.heap.size (w.heap.size + 1) gF gA gB wd.heap.size (wd.heap.size + 1 + 1) (wd.heap.size + 1) #[.slice Ap r.sig.inn.length cp, .slice Aq r.sig.out.length cq, .int .i64 r.places, .slice Ar r.params.length cr, .slice Ac r.code.length cc] w k [] (k + 1) wx))
     case first =>
      obtain ⟨bA, bB, vF, F, m1, m2, m3, m4, m5, m6, m7⟩ := IM1.out
      have f0 := m3.f.cell 0
      have f1 := m3.f.cell 1
      have f2 := m3.a.cell k
      have f3 := m3.b.cell k
      simp at f0 f1
      have z2 := frz m3.a k
      have z3 := frz m3.b k
      have e2 : (setsV bA n)[k]? = some (.map none) := by
       unfold setsV
       rw [List.getElem?_toArray, List.getElem?_append_right (by rw [mapsV_len, m1]; exact Nat.le_refl _), mapsV_len, m1, Nat.sub_self, List.getElem?_replicate, if_pos (by omega)]
      have e3 : (setsV bB n)[k]? = some (.map none) := by
       unfold setsV
       rw [List.getElem?_toArray, List.getElem?_append_right (by rw [mapsV_len, m2]; exact Nat.le_refl _), mapsV_len, m2, Nat.sub_self, List.getElem?_replicate, if_pos (by omega)]
      rw [e2] at f2
      rw [e3] at f3
      have y1 := m3.f.lt
      have y2 := m3.a.lt
      have y3 := m3.b.lt
      have n1 : gF ≠ gA := blk_ne m3.f m3.a (by decide)
      have n2 : gF ≠ gB := blk_ne m3.f m3.b (by decide)
      have n3 : gA ≠ gB := m3.hab
      have n4 : gB ≠ gA := fun e => n3 e.symm
      have hmm : ∀ w, (Instr.makeMap 113 none).run Tryz.prog w = .ok (.map (some w.heap.size)) (w.alloc (.map #[] 0)) := fun w => by simp [Instr.makeMap]
      clear e2 e3 m1 m2 m3 m4 m5 m6 m7
      clear HE HR H7 HB0 KR0 HBC HB1 KR1 HC KF KA KB HAB HA0 HB0' HBc S0 KR2 HGF
      generalize Value.agg #[.slice As e.sigs.length cs, .int .i64 e.imports, .slice Ag e.globals.length cg, .slice Am e.muts.length cm, .bool e.mem] = vE at *
      generalize Value.agg #[.slice Ap r.sig.inn.length cp, .slice Aq r.sig.out.length cq, .int .i64 r.places, .slice Ar r.params.length cr, .slice Ac r.code.length cc] = vR at *
      go_region
      all_goals
       go_wp2_with fail
       go_meet
       first
        | exact Lib.hid (InRel.made IM1.out hlt (.inl ⟨rfl, rfl⟩)).drew
        | exact Lib.hid (InRel.made IM1.out hlt (.inr ⟨rfl, rfl⟩)).drew
        | trace_state
     case rest =>
      have IM2 := hcut
      clear hcut IM1
      obtain ⟨wo, rfl⟩ : ∃ wo : World, wo = wc := ⟨_, rfl⟩
      obtain ⟨c, hc⟩ : ∃ c, r.code[k]? = some c := ⟨_, List.getElem?_eq_getElem (by rw [HN.out]; exact hlt)⟩
      have HCK := Lib.hid hc
      have hcr := (show ∃ bA bB vF F, _ from IM2.out)
      obtain ⟨bA, bB, vF, F, _, _, m3, _, _, _, m7⟩ := hcr
      obtain ⟨r0, r1, r2, r3, r4⟩ := blk5 m3.r
      have y1 := m3.r.lt
      have M7 := Lib.hid m7
      clear m3 m7 hc
      go_wp2_with fail
      refine (next_any r _ k c _ (HR.out.below M7.out (Nat.le_refl _)) HCK.out (by
       have h2 := codeOk_to (HC.out.code c (List.mem_of_getElem? HCK.out))
       have : toHi c.op ≤ 65 := by unfold toHi; split; omega; split <;> omega
       omega) HC.out.n2).mono ?_
      rintro en w2 ⟨vn, rfl, hon, hbn⟩
      have J2 := Lib.hid (IM2.out.two hon hbn)
      obtain ⟨Avn, cvn, rfl, _⟩ := own_shape hon
      obtain ⟨m, hm⟩ : ∃ m, (nextL c k).length = m := ⟨_, rfl⟩
      rw [hm] at J2 ⊢
      have hm66 : m ≤ 66 := by
       rw [← hm]
       have h2 := codeOk_to (HC.out.code c (List.mem_of_getElem? HCK.out))
       have : toHi c.op ≤ 65 := by unfold toHi; split; omega; split <;> omega
       unfold nextL
       split <;> simp <;> omega
      have HM := Lib.hid hm
      clear hon hbn r0 r1 r2 r3 r4 y1 hm
      go_wp2_with fail
      go_loopw [63] (fun i wr => ∃ j : Nat, j ≤ m ∧ i = .int .i64 j ∧ Hid (InRel2 r n w.heap.size (w.heap.size + 1) gF gA gB wd.heap.size (wd.heap.size + 1 + 1) (wd.heap.size + 1) #[.slice Ap r.sig.inn.length cp, .slice Aq r.sig.out.length cq, .int .i64 r.places, .slice Ar r.params.length cr, .slice Ac r.code.length cc] w k ((nextL c k).take j) (.slice Avn m cvn) (nextL c k) wr)) (fun i _ => m - (intOf i).toNat)
      case atStart => exact ⟨0, by omega, rfl, J2⟩
      case round =>
       clear J2 IM2 M7
       obtain ⟨j, hj, rfl, J3⟩ := hrel
       by_cases hjm : j < m
       ·have hjm' : decide ((j : Int) < m) = true := by simp; omega
        have hjm2 : (j : Int) < m := by omega
        obtain ⟨x, hx⟩ : ∃ x, (nextL c k)[j]? = some x := ⟨_, List.getElem?_eq_getElem (by rw [HM.out]; exact hjm)⟩
        have hxo := (nextL_mem (HC.out.code c (List.mem_of_getElem? HCK.out)) k x).1 (List.mem_of_getElem? hx)
        have hxr := (HC.out.flow.to k c HCK.out).1 x hxo
        obtain ⟨q, rfl⟩ : ∃ q : Nat, x = q := ⟨x.toNat, by omega⟩
        have hqn : q < n := by rw [HN.out] at hxr; omega
        have hqn2 : (q : Int) < n := by omega
        obtain ⟨bA, bB, vF, F, k1, k2, k3, k4, k5, k6, k7, k8, k9⟩ := J3.out
        rw [HM.out] at k9
        have s0 := Bk.Src.of_own k9
        obtain ⟨nb, no, rfl, hnb⟩ := s0.addr (by omega)
        have c0 := s0.at_ hjm
        rw [i64s_at (by rw [HM.out]; exact hjm), (List.getElem?_eq_some_iff.1 hx).2] at c0
        have hql : q < F.length := by rw [k6.l, HN.out]; exact hqn
        obtain ⟨l, hl⟩ : ∃ l, F[q]? = some l := ⟨_, List.getElem?_eq_getElem hql⟩
        obtain ⟨u, hu⟩ : ∃ u, vF[q]? = some u := ⟨_, List.getElem?_eq_getElem (by rw [k3.rf.1]; exact hql)⟩
        have hou := k3.rf.2 q u l hu hl
        have hll := (k6.s q l hl).2
        have hdl : ((nextL c k).take j).length ≤ 66 := by
         rw [List.length_take, HM.out]
         have := Nat.min_le_left j m
         omega
        have hlb : l.length ≤ 300000 := by omega
        obtain ⟨Au, cu, rfl, _⟩ := own_shape hou
        have c1 := k3.fr.cell q
        have e1 : vF.toArray[q]? = some (.slice Au l.length cu) := by simpa using hu
        rw [e1] at c1
        obtain ⟨p, hp⟩ : ∃ p, l.length = p := ⟨_, rfl⟩
        have HU := Lib.hid hu
        have HLq := Lib.hid hl
        have HP := Lib.hid hp
        rw [hp] at c1 hlb hou
        have y1 := k3.fr.lt
        have zz := frz k3.fr q
        have K3 := Lib.hid k3
        have K4 := Lib.hid k4
        have K5 := Lib.hid k5
        have K6 := Lib.hid k6
        have K7 := Lib.hid k7
        have K8 := Lib.hid k8
        have K9 := Lib.hid k9
        have K1 := Lib.hid k1
        have K2 := Lib.hid k2
        have HOU := Lib.hid hou
        have HXJ := Lib.hid hx
        have hzz := k3.base_lt
        clear k1 k2 k3 k4 k5 k6 k7 k8 k9 hu hl hp e1 s0 hou hx hxo hxr hll hdl
        go_wp2_with (at_builtin; refine append_at _ rfl (.tmp 72) (.tmp 74) 23 rfl w.heap.size 3 (.int .i64 0) 1 8 Tryz.underlying23 info_int rfl (by omega) (.slice Au p cu) p (i64s l) rfl (own_alloc HOU.out _) (some ⟨wr.heap.size, 0, none⟩) 1 1 [.int .i64 (k : Int)] rfl (src_one _ _ _) (one_int _ _) (by unfold maxLen; omega) (by omega) (by simp; omega) ?_)
        rintro v2 w2 h1 h2 h3 _
        have ep := HP.out
        subst ep
        obtain ⟨A2, c2', rfl, _⟩ := own_shape h1
        have K3a := K3.out.grown ((Below.refl _ _).alloc (Nat.le_refl _) (.cells #[.int .i64 (k : Int)] 3))
        have el : i64s l ++ [.int .i64 (k : Int)] = i64s (l ++ [(k : Int)]) := by simp [i64s]
        rw [el] at h1
        obtain ⟨L1, L2, L3⟩ := K3a.pushF K4.out (own_alloc K5.out _) HU.out HLq.out h2 h1 (by simpa using h3)
        obtain ⟨_, L4, L5⟩ := K3a.pushF K8.out (own_alloc K9.out _) HU.out HLq.out h2 h1 (by simpa using h3)
        have hbb := below_grown (K7.out.alloc hzz (.cells #[.int .i64 (k : Int)] 3)) h2 (by simp; omega) (fun g hg => (HOU.out.lt g hg).1)
        have fr0 := K3a.fr.grown h2 (own_ne (own_alloc HOU.out _) K3a.fr (by decide))
        have d0 := fr0.cell q
        have e1 : vF.toArray[q]? = some (.slice Au l.length cu) := by simpa using HU.out
        rw [e1] at d0
        have d1 := frz fr0 q
        have d2 := fr0.lt
        have P1 := Lib.hid L1
        have P2 := Lib.hid L2
        have P3 := Lib.hid L3
        have P4 := Lib.hid L4
        have P5 := Lib.hid L5
        have P6 := Lib.hid (hbb.setCell (p := ⟨wd.heap.size, q, none⟩) K3.out.lr (.slice A2 (l.length + 1) c2'))
        clear L1 L2 L3 L4 L5 K3a fr0 e1 h1 h2 h3 hbb el
        go_wp2
        have et : (nextL c k).take j ++ [(q : Int)] = (nextL c k).take (j + 1) := by
         obtain ⟨hk', e⟩ := List.getElem?_eq_some_iff.1 HXJ.out
         rw [List.take_succ_eq_append_getElem hk', e]
        have hfk := K6.out.push (by rw [HN.out]; exact hlt) HLq.out
        rw [et] at hfk
        exact ⟨⟨j + 1, by omega, by simp, Lib.hid ⟨bA, bB, _, _, K1.out, K2.out, P1.out, P2.out, P3.out, hfk, P6.out, P4.out, by rw [HM.out]; exact P5.out⟩⟩, by simp [intOf]; omega⟩
       ·have hjm' : decide ((j : Int) < m) = false := by simp; omega
        have hjm2 : j = m := by omega
        subst hjm2
        have J4 := Lib.hid J3.out.one
        have hq0 : w.heap.size ≤ wd.heap.size + 1 := by have := S0.out.size; omega
        have J5 := Lib.hid (J4.out.mark HCK.out (fun x hx => by
         rw [List.take_of_length_le (by rw [HM.out]; exact Nat.le_refl _)]
         exact (nextL_mem (HC.out.code c (List.mem_of_getElem? HCK.out)) k x).2 hx) (by
         have h2 := codeOk_to (HC.out.code c (List.mem_of_getElem? HCK.out))
         have : toHi c.op ≤ 65 := by unfold toHi; split; omega; split <;> omega
         rw [List.length_take]
         have h3 : (nextL c k).length ≤ 66 := by
          unfold nextL
          split <;> simp <;> omega
         omega) hlt hq0)
        obtain ⟨bA, bB, vF, F, k1, k2, k3, k4, k5, k6, k7⟩ := J4.out
        have a0 := k5.cellAt k (by omega)
        obtain ⟨ea, ea'⟩ : ∃ ea : Int, (i64s (rng k ++ List.replicate (n - k) 0))[k]? = some (.int .i64 ea) := ⟨0, by
         simp only [i64s, List.getElem?_map]
         rw [List.getElem?_append_right (by rw [rng_len]; exact Nat.le_refl _), rng_len, Nat.sub_self, List.getElem?_replicate, if_pos (by omega)]
         rfl⟩
        rw [ea'] at a0
        have a1 := k5.frozenAt k
        have a2 := (k5.lt (wd.heap.size + 1) rfl).2
        have b0 := k3.w.cell k
        have eb : (boolsV (List.replicate k true ++ List.replicate (n - k) false)).toArray[k]? = some (.bool false) := by
         simp only [boolsV, List.getElem?_toArray, List.getElem?_map]
         rw [List.getElem?_append_right (by simp), List.length_replicate, Nat.sub_self, List.getElem?_replicate, if_pos (by omega)]
         rfl
        rw [eb] at b0
        have b1 := frz k3.w k
        have b2 := k3.w.lt
        clear k1 k2 k3 k4 k5 k6 k7 ea' eb J3
        go_wp2
        exact ⟨⟨k + 1, by omega, by simp, J5⟩, by simp [intOf]; omega⟩
    -- END
    ·have hlt' : decide ((k : Int) < n) = false := by simp; omega
     have hkn : k = n := by omega
     subst hkn
     obtain ⟨bA, bB, vF, F, hbA, hbB, hFr, hmr⟩ := IM1.out.main HN.out
     have HBA := Lib.hid hbA
     have HBB := Lib.hid hbB
     have HFR := Lib.hid hFr
     have HMR := Lib.hid hmr
     clear hbA hbB hFr hmr IM1
     go_wp2
     go_loopg [9] (muL k r.places.toNat (List.replicate k []) (rng k)) (fun g v wi => ∃ (T : List Int) (A B : Sets) (wt : List Bool), Hid (MainRel r k w.heap.size (w.heap.size + 1) gF gA gB wd.heap.size (wd.heap.size + 1 + 1) #[.slice Ap r.sig.inn.length cp, .slice Aq r.sig.out.length cq, .int .i64 r.places, .slice Ar r.params.length cr, .slice Ac r.code.length cc] w bA bB vF F v T A B wt [] wi) ∧ Hid (muL k r.places.toNat A T = g))
     case atStart => exact ⟨_, _, _, _, HMR, Lib.hid rfl⟩
     case round =>
      clear HMR
      obtain ⟨T, A, B, wt, IM1, IG⟩ := hrel
      obtain ⟨wo, rfl⟩ : ∃ wo : World, wo = wr := ⟨_, rfl⟩
      rcases List.eq_nil_or_concat T with rfl | ⟨T', x, rfl⟩
      ·obtain ⟨Av, cv, hv, _⟩ := own_shape IM1.out.2.2.1
       subst hv
       have HS := Lib.hid (all_stable HC.out.flow IM1.out.2.2.2.1.s (fun i hi => IM1.out.2.2.2.1.st i hi (by simp) (by simp)))
       go_wp2
       go_ret2
       obtain ⟨m1, _, _, m4, m5⟩ := IM1.out
       have la : A.length = k := by rw [m4.s.lA, HN.out]
       refine .inr ⟨HC.out, gF, gA, gB, bA, bB, A, B, rfl, { f := ?_, a := ?_, b := ?_, la := m1.la, lb := m1.lb, ma := m1.ma, mb := m1.mb, s := m4.s, eA := HS.out.1, eB := HS.out.2, lF := m1.lF, lA := m1.lA, lB := m1.lB }, m5⟩
       ·rw [HN.out]; exact m1.f
       ·rw [← setsV_full HBA.out]; exact m1.a
       ·rw [← setsV_full HBB.out]; exact m1.b
      ·rw [List.concat_eq_append] at IM1 IG
       obtain ⟨i, rfl, hi0⟩ := IM1.out.2.2.2.1.tr x (by simp)
       have hik : i < k := by rw [← HN.out]; exact hi0
       have hik2 : (i : Int) < k := by omega
       obtain ⟨c, hc⟩ : ∃ c, r.code[i]? = some c := ⟨_, List.getElem?_eq_getElem hi0⟩
       have HCI := Lib.hid hc
       obtain ⟨t, ht⟩ : ∃ t, T'.length = t := ⟨_, rfl⟩
       have hl1 : (T' ++ [(i : Int)]).length = t + 1 := by simp [ht]
       have htk : t + 1 ≤ k := by
        have := todo_len IM1.out.2.2.2.1
        rw [hl1, HN.out] at this
        exact this
       have hTL := Lib.hid ht
       obtain ⟨m1, m2, m3, m4, m5⟩ := IM1.out
       rw [hl1] at m3
       obtain ⟨gT, cT, rfl, hgT, hgb, hcT⟩ := own_at m3 (by omega)
       have c0 := m3.cellAt t (by omega)
       have e0 : (i64s (T' ++ [(i : Int)]))[t]? = some (.int .i64 i) := by
        unfold i64s
        rw [List.map_append, List.getElem?_append_right (by simp [ht]), List.length_map, ht, Nat.sub_self]
        rfl
       rw [e0] at c0
       have b0 := m1.w.cell i
       have hwi : wt[i]? = some true := (m4.tw i).2 (by simp)
       have eb : (boolsV wt).toArray[i]? = some (.bool true) := by
        simp only [boolsV, List.getElem?_toArray, List.getElem?_map, hwi]
        rfl
       rw [eb] at b0
       have b1 := frz m1.w i
       have b2 := m1.w.lt
       obtain ⟨q0, q1, q2, q3, q4⟩ := blk5 m1.r
       rw [HN.out] at q4
       have yr := m1.r.lt
       have hzz := m5.size
       obtain ⟨gb, go, p, q, tt, rfl, hgb2, g0, g1, g2, g3, g4, s0, s1, s2, s3⟩ := H7.out.code hc
       replace g0 := (m5.cell (p := ⟨gb, _, none⟩) hgb2).trans g0
       replace g1 := (m5.cell (p := ⟨gb, _, none⟩) hgb2).trans g1
       replace g2 := (m5.cell (p := ⟨gb, _, none⟩) hgb2).trans g2
       replace g3 := (m5.cell (p := ⟨gb, _, none⟩) hgb2).trans g3
       replace g4 := (m5.cell (p := ⟨gb, _, none⟩) hgb2).trans g4
       have hs0 := S0.out.size
       have hgw : gb ≠ wd.heap.size + 1 + 1 := by omega
       obtain ⟨pA, pc, rfl⟩ := s1.shape
       obtain ⟨qA, qc, rfl⟩ := s2.shape
       obtain ⟨tA, tc, rfl⟩ := s3.shape
       have HAI := Lib.hid s1.ir
       have HOI := Lib.hid s2.ir
       obtain ⟨_, _, _, _, haL⟩ := s1.len
       obtain ⟨_, _, _, _, hoL⟩ := s2.len
       have HALN := Lib.hid haL
       have HOLN := Lib.hid hoL
       clear haL hoL
       have hne1 : gT ≠ wd.heap.size + 1 + 1 := fun e => (own_ne m3 m1.w (by decide)) (by rw [e]; rfl)
       have z1 : IntKind.i64.wrap (((t + 1 : Nat) : Int) - 1) = (t : Int) := by rw [show ((t + 1 : Nat) : Int) - 1 = t by omega]; exact IntWalk.i64_in _ (by omega)
       clear hc ht m1 m2 m3 m4 m5 s0 s1 s2 s3 hwi eb e0 hi0
       go_wp2_with fail
       have HW1 := Lib.hid (IM1.out.pop hTL.out (i := i) (cc := #[.int .i64 c.op, .int .u64 (c.n : Int), .slice pA c.args.length pc, .slice qA c.outs.length qc, .slice tA c.to.length tc]))
       have HB1' := Lib.hid (show Below w.heap.size w ((wo.setCell ⟨wd.heap.size + 1 + 1, i, none⟩ (.bool false)).alloc (.cells #[.int .i64 c.op, .int .u64 (c.n : Int), .slice pA c.args.length pc, .slice qA c.outs.length qc, .slice tA c.to.length tc] 48)) from HW1.out.2.2.2.2.2)
       generalize ((wo.setCell ⟨wd.heap.size + 1 + 1, i, none⟩ (.bool false)).alloc (.cells #[.int .i64 c.op, .int .u64 (c.n : Int), .slice pA c.args.length pc, .slice qA c.outs.length qc, .slice tA c.to.length tc] 48)) = W1 at HW1 HB1' ⊢
       clear c0 b0 b1 b2 q0 q1 q2 q3 q4 g0 g1 g2 g3 g4 yr hgT
       obtain ⟨m1, m2, m3, m4, m5, m6⟩ := HW1.out
       have hSnd := IM1.out.2.2.2.1.s
       obtain ⟨sA, hsA⟩ : ∃ sA, A[i]? = some sA := ⟨_, List.getElem?_eq_getElem (by rw [hSnd.lA, HN.out]; exact hik)⟩
       obtain ⟨tB, htB⟩ : ∃ tB, B[i]? = some tB := ⟨_, List.getElem?_eq_getElem (by rw [hSnd.lB, HN.out]; exact hik)⟩
       obtain ⟨bi, hbi⟩ : ∃ bi, bA[i]? = some bi := ⟨_, List.getElem?_eq_getElem (by rw [HBA.out]; exact hik)⟩
       obtain ⟨bj, hbj⟩ : ∃ bj, bB[i]? = some bj := ⟨_, List.getElem?_eq_getElem (by rw [HBB.out]; exact hik)⟩
       have HSA := Lib.hid hsA
       have HTB := Lib.hid htB
       have HBI := Lib.hid hbi
       have HBJ := Lib.hid hbj
       have hmi := Lib.hid (m1.ma i bi sA hbi hsA)
       have f0 := m1.f.cell 0
       have f2 := m1.a.cell i
       simp at f0
       rw [setsV_at hbi] at f2
       have f3 := m4.cell 2
       simp at f3
       have y2 := m1.f.lt
       have y3 := m4.lt
       have y4 := m1.a.lt
       clear m1 m2 m3 m4 m5 m6 hSnd hsA htB hbi hbj
       go_cut [16] (fun f wx => f = .bool (decide (sA.length < (insAll sA c.args).length)) ∧ Hid (WkRel k w.heap.size (w.heap.size + 1) gF gA gB wd.heap.size (wd.heap.size + 1 + 1) #[.slice Ap r.sig.inn.length cp, .slice Aq r.sig.out.length cq, .int .i64 r.places, .slice Ar r.params.length cr, .slice (some ⟨gb, go, none⟩) r.code.length cc] w bA bB vF F (.slice (some ⟨gT, 0, none⟩) t cT) T' wo.heap.size #[.int .i64 c.op, .int .u64 (c.n : Int), .slice pA c.args.length pc, .slice qA c.outs.length qc, .slice tA c.to.length tc] (A.set i (insAll sA c.args)) B (wt.set i false) wx))
       case first => as_aux_lemma =>
        -- DEV sorry
        have hsm := (IM1.out.2.2.2.1.s.small HC.out).1 sA (List.mem_of_getElem? HSA.out)
        have hp2 := HC.out.p2
        have hal := Lib.hid (show c.args.length ≤ 1152921504606846976 by have := HALN.out; omega)
        have hsl := Lib.hid (show sA.length ≤ 1000000 by omega)
        clear hsm hp2
        go_region_with ((go_at_call 70; refine (Add_any bi sA c.args _ _ hmi.out.drew (HAI.out.below HB1'.out (Nat.le_refl _)).drew hal.out hsl.out).mono ?_; rintro e w1' ⟨rfl, h1, h2, h3⟩; have HQ := Lib.hid (HW1.out.drew.putA HBI.out HSA.out h2 h1); clear h1 h2 h3))
        all_goals
         go_wp2
         go_meet
         exact ⟨rfl, HQ⟩
        -- END
       case rest =>
        clear f0 f2 f3 y2 y3 y4
        obtain ⟨wp, rfl⟩ : ∃ wp : World, wp = wc := ⟨_, rfl⟩
        obtain ⟨rfl, HW2⟩ := hcut
        obtain ⟨b0, hb0⟩ : ∃ b0, decide (sA.length < (insAll sA c.args).length) = b0 := ⟨_, rfl⟩
        have hwk := Work.start IM1.out.2.2.2.1.s HCI.out HSA.out HTB.out
        rw [hb0] at hwk ⊢
        have HWK := Lib.hid hwk
        clear hwk hb0 HW1 hmi HB1'
        obtain ⟨m1, m2, m3, m4, m5, m6⟩ := HW2.out
        obtain ⟨q0, q1, q2, q3, q4⟩ := blk5 m1.r
        have y2 := m1.r.lt
        have hct := HC.out.code c (List.mem_of_getElem? HCI.out)
        have hto := Lib.hid (show c.to.length ≤ 65 by
         obtain ⟨_, h2, _⟩ := codeOk_to hct
         have : toHi c.op ≤ 65 := by unfold toHi; split; omega; split <;> omega
         omega)
        have hrr := Lib.hid (HR.out.below m6 (Nat.le_refl _))
        clear m1 m2 m3 m4 m5 m6 hct
        go_wp2_with fail
        (with_reducible refine (next_any r _ i c _ hrr.out HCI.out hto.out HC.out.n2).mono ?_)
        rintro en w5 ⟨vn, rfl, hno, hnb⟩
        obtain ⟨An, cn, rfl, _⟩ := own_shape hno
        have HW3 := Lib.hid (HW2.out.grown hnb)
        have HNO := Lib.hid (own_mono hno HW2.out.2.2.2.2.2.size)
        obtain ⟨m, hm⟩ : ∃ m, (nextL c i).length = m := ⟨_, rfl⟩
        rw [hm] at HNO ⊢
        have HM := Lib.hid hm
        have hm66 : m ≤ 66 := by
         rw [← hm]
         have := hto.out
         unfold nextL
         split <;> simp <;> omega
        clear hno hnb hm hrr q0 q1 q2 q3 q4 y2
        have hwl : WlRel r k w.heap.size (w.heap.size + 1) gF gA gB wd.heap.size (wd.heap.size + 1 + 1) #[.slice Ap r.sig.inn.length cp, .slice Aq r.sig.out.length cq, .int .i64 r.places, .slice Ar r.params.length cr, .slice (some ⟨gb, go, none⟩) r.code.length cc] w bA bB vF F (.slice (some ⟨gT, 0, none⟩) t cT) T' wo.heap.size #[.int .i64 c.op, .int .u64 (c.n : Int), .slice pA c.args.length pc, .slice qA c.outs.length qc, .slice tA c.to.length tc] (wt.set i false) A B i c sA (.slice An m cn) (nextL c i) [] b0 w5 := ⟨_, _, _, _, HW3.out, HWK.out, by rw [HM.out]; exact HNO.out⟩
        have HWL := Lib.hid hwl
        clear hwl HW3 HWK HNO HW2
        go_wp2_with fail
        go_loopw [16, 122] (fun tv iv wr => ∃ (j : Nat) (b : Bool), j ≤ m ∧ iv = .int .i64 j ∧ tv = .bool b ∧ Hid (WlRel r k w.heap.size (w.heap.size + 1) gF gA gB wd.heap.size (wd.heap.size + 1 + 1) #[.slice Ap r.sig.inn.length cp, .slice Aq r.sig.out.length cq, .int .i64 r.places, .slice Ar r.params.length cr, .slice (some ⟨gb, go, none⟩) r.code.length cc] w bA bB vF F (.slice (some ⟨gT, 0, none⟩) t cT) T' wo.heap.size #[.int .i64 c.op, .int .u64 (c.n : Int), .slice pA c.args.length pc, .slice qA c.outs.length qc, .slice tA c.to.length tc] (wt.set i false) A B i c sA (.slice An m cn) (nextL c i) ((nextL c i).take j) b wr)) (fun _ iv _ => m - (intOf iv).toNat)
        case atStart => exact ⟨0, b0, by omega, rfl, rfl, HWL⟩
        case round =>
         clear HWL
         obtain ⟨j, b, hj, rfl, rfl, IW⟩ := hrel
         obtain ⟨wa, rfl⟩ : ∃ wa : World, wa = wr := ⟨_, rfl⟩
         by_cases hjm : j < m
         -- DEV2 ·_sorry
         ·have hjm' : decide ((j : Int) < m) = true := by simp; omega
          have hjm2 : (j : Int) < m := by omega
          obtain ⟨A1, B1, s1, t1, p1, p2, p3⟩ := IW.out
          have P3 := Lib.hid p3
          rw [HM.out] at p3
          obtain ⟨x, hx⟩ : ∃ x, (nextL c i)[j]? = some x := ⟨_, List.getElem?_eq_getElem (by rw [HM.out]; exact hjm)⟩
          have hxo := (nextL_mem (HC.out.code c (List.mem_of_getElem? HCI.out)) i x).1 (List.mem_of_getElem? hx)
          have hxr := (HC.out.flow.to i c HCI.out).1 x hxo
          obtain ⟨q, rfl⟩ : ∃ q : Nat, x = q := ⟨x.toNat, by omega⟩
          have hqn : q < k := by rw [HN.out] at hxr; omega
          have hqn2 : (q : Int) < k := by omega
          have s0 := Bk.Src.of_own p3
          obtain ⟨nb, no, rfl, hnb⟩ := s0.addr (by omega)
          have c0 := s0.at_ hjm
          rw [i64s_at (by rw [HM.out]; exact hjm), (List.getElem?_eq_some_iff.1 hx).2] at c0
          obtain ⟨bk, hbk⟩ : ∃ bk, bA[q]? = some bk := ⟨_, List.getElem?_eq_getElem (by rw [HBA.out]; exact hqn)⟩
          obtain ⟨u, hu⟩ : ∃ u, A1[q]? = some u := ⟨_, List.getElem?_eq_getElem (by rw [p2.snd.lA, HN.out]; exact hqn)⟩
          have f0 := p1.1.f.cell 0
          have f2 := p1.1.a.cell q
          simp at f0
          rw [setsV_at hbk] at f2
          have y2 := p1.1.f.lt
          have y4 := p1.1.a.lt
          have hmk := Lib.hid (p1.1.ma q bk u hbk hu)
          have P1 := Lib.hid p1
          have P2 := Lib.hid p2
          have HU := Lib.hid hu
          have HBK := Lib.hid hbk
          have HXJ := Lib.hid hx
          have HXO := Lib.hid hxo
          clear p1 p2 p3 hu hbk hx hxo hxr s0
          go_wp2_with (at_range; refine wp_range _ rfl _ 113 rfl 3 4 Tryz.underlying113 bk (setKV u) rfl hmk.out ?_)
          rintro w1 hI hg hz
          have HI := Lib.hid (WiRel.start P1.out P2.out P3.out HU.out hg hI)
          clear hI hg hz hmk c0 f0 f2 y2 y4 P1 P2 P3 HU hnb
          go_wp2_with fail
          go_loopw [16] (fun tv wr => ∃ (b : Bool) (A1 B1 : Sets) (s1 t1 : List Int) (L : KV), tv = .bool b ∧ Hid (WiRel r k w.heap.size (w.heap.size + 1) gF gA gB wd.heap.size (wd.heap.size + 1 + 1) #[.slice Ap r.sig.inn.length cp, .slice Aq r.sig.out.length cq, .int .i64 r.places, .slice Ar r.params.length cr, .slice (some ⟨gb, go, none⟩) r.code.length cc] w bA bB vF F (.slice (some ⟨gT, 0, none⟩) t cT) T' wo.heap.size #[.int .i64 c.op, .int .u64 (c.n : Int), .slice pA c.args.length pc, .slice qA c.outs.length qc, .slice tA c.to.length tc] (wt.set i false) A B i c sA (.slice (some ⟨nb, no, none⟩) m cn) (nextL c i) ((nextL c i).take j) q u bk wa.heap.size A1 B1 s1 t1 L b wr)) (fun _ wr => wr.rangeLeft bk wa.heap.size)
          case atStart => exact ⟨b, A1, B1, s1, t1, _, rfl, HI⟩
          case round => as_aux_lemma =>
           clear HI
           obtain ⟨b1, A2, B2, s2, t2, L, rfl, IV⟩ := hrel
           obtain ⟨wi, rfl⟩ : ∃ wi : World, wi = wr := ⟨_, rfl⟩
           have HLE := Lib.hid IV.out.2.2.2.2.1.left
           have HLI := Lib.hid IV.out.2.2.2.2.1.lt
           go_wp2_with (at_next; refine wp_next _ rfl _ rfl bk wa.heap.size (setKV u) L rfl IV.out.2.2.2.2.1 ?_ ?_)
           ·rintro rfl
            have hdn := IV.out.done
            have et : (nextL c i).take j ++ [(q : Int)] = (nextL c i).take (j + 1) := by
             obtain ⟨hk', e⟩ := List.getElem?_eq_some_iff.1 HXJ.out
             rw [List.take_succ_eq_append_getElem hk', e]
            rw [et] at hdn
            have HDN := Lib.hid hdn
            clear hdn et
            go_wp2
            exact ⟨⟨j + 1, b1, by omega, by simp, rfl, HDN⟩, by simp [intOf]; omega⟩
           ·rintro L1 p x L2 w2 rfl hI2 hg2 hz2 hen
            have HI2 := Lib.hid hI2
            have HG2 := Lib.hid hg2
            obtain ⟨g1, g2, hpu⟩ := IV.out.turn hI2 hg2
            have G1 := Lib.hid g1
            have f0 := g1.1.f.cell 1
            have f2 := g1.1.b.cell i
            simp at f0
            rw [setsV_at HBJ.out] at f2
            have y2 := g1.1.f.lt
            have y4 := g1.1.b.lt
            have hwb := Lib.hid IV.out.2.1.b
            have hwa := Lib.hid IV.out.2.1.a
            have hmj := Lib.hid (g1.1.mb i bj t2 HBJ.out hwb.out)
            clear hI2 hg2 hz2 g1 g2 hpu
            go_wp2_with (at_mapUpdate; refine wp_upd _ rfl _ _ _ 113 rfl 3 4 Tryz.underlying113 Tryz.underlying3 bj (setKV t2) p (.bool true) rfl rfl rfl hmj.out ?_)
            rintro w3 h1 h2 h3
            rw [setKV_upd] at h1
            have H1 := Lib.hid h1
            have H2 := Lib.hid h2
            have K3 := Lib.hid (G1.out.putB HBJ.out hwb.out h2 h1)
            obtain ⟨k1, _, _, k4, _, k6⟩ := K3.out
            have K6 := Lib.hid k6
            have f3 := k4.cell 3
            simp at f3
            have y3 := k4.lt
            have f0 := k1.f.cell 0
            have f2 := k1.a.cell i
            simp at f0
            rw [setsV_at HBI.out] at f2
            have y2 := k1.f.lt
            have y4 := k1.a.lt
            have hmi := Lib.hid (k1.ma i bi s2 HBI.out hwa.out)
            have hol := HOLN.out
            clear k1 k4 k6 h1 h2 h3 hen
            go_wp2_with fail
            (with_reducible refine (Contains_any _ c.outs p _ (HOI.out.below K6.out (Nat.le_refl _)) (by omega)).mono ?_)
            rintro en w4 ⟨rfl, rfl⟩
            clear hol
            by_cases ho : p ∈ c.outs
            ·rw [decide_eq_true ho]
             have HSK := Lib.hid (IV.out.skip HI2.out HG2.out HBK.out HBJ.out H1.out H2.out HCI.out HXO.out (fun hno => absurd ho hno))
             clear ho
             have HLE3 := Lib.hid HSK.out.2.2.2.2.1.left
             go_wp2
             refine ⟨⟨b1, A2, _, s2, _, L1 ++ L2, rfl, HSK⟩, ?_⟩
             rw [HLE3.out, HLE.out]
             simp
            ·rw [decide_eq_false ho]
             have HO := Lib.hid ho
             clear ho
             have hlk := (hmi.out.lookup (P := Tryz.prog) Tryz.underlying113 Tryz.underlying3 (zero_bool _) p).1
             rw [setKV_get] at hlk
             by_cases hs : p ∈ s2
             ·rw [if_pos hs] at hlk
              have HSK := Lib.hid (IV.out.skip HI2.out HG2.out HBK.out HBJ.out H1.out H2.out HCI.out HXO.out (fun _ => hs))
              clear hs
              simp only [Option.getD_some] at hlk
              have HLE3 := Lib.hid HSK.out.2.2.2.2.1.left
              go_wp2
              refine ⟨⟨b1, A2, _, s2, _, L1 ++ L2, rfl, HSK⟩, ?_⟩
              rw [HLE3.out, HLE.out]
              simp
             ·rw [if_neg hs] at hlk
              simp only [Option.getD_none] at hlk
              have hgn : getM (setKV s2) p = none := by rw [setKV_get, if_neg hs]
              obtain ⟨w5', stamp, hr1, hie, hg5, hz5⟩ := hmi.out.entry (P := Tryz.prog) (z := .bool false) Tryz.underlying113 Tryz.underlying3 zero_bool p hgn
              obtain ⟨w6', hr2, him, hg6, hz6⟩ := hie.store (P := Tryz.prog) 113 (.bool true)
              have e6 : setKV s2 ++ [(p, Value.bool true)] = setKV (s2 ++ [p]) := by simp [setKV]
              rw [e6] at him
              have hg7 : w3.grownBy w6' (some bi) := ⟨hg6.os.trans hg5.os, hg6.tape.trans hg5.tape, hg6.output.trans hg5.output, Nat.le_trans hg5.size hg6.size, fun jj hjj hne => (hg6.block jj (Nat.lt_of_lt_of_le hjj hg5.size) hne).trans (hg5.block jj hjj hne)⟩
              have HPT := Lib.hid (IV.out.put HI2.out HG2.out HBK.out HBJ.out H1.out H2.out HCI.out HXO.out HO.out hs HBI.out him hg7)
              clear hs hgn hie hg5 hz5 him hg6 hz6 e6 hg7
              have HLE3 := Lib.hid HPT.out.2.2.2.2.1.left
              go_wp2
              refine ⟨⟨true, _, _, _, _, L1 ++ L2, rfl, HPT⟩, ?_⟩
              rw [HLE3.out, HLE.out]
              simp
         -- END2
         ·have hjm' : decide ((j : Int) < m) = false := by simp; omega
          have hjm2 : j = m := by omega
          subst hjm2
          obtain ⟨l, hl⟩ : ∃ l, F[i]? = some l := ⟨_, List.getElem?_eq_getElem (by rw [HFR.out.1, HN.out]; exact hik)⟩
          have HL := Lib.hid hl
          clear hl
          obtain ⟨A', B', hmain, hb1, hb2, hb3⟩ := IW.out.main (p := r.places.toNat) IM1.out.2.2.2.1 HCI.out (fun k' hk' => by
           rw [List.take_of_length_le (by rw [HM.out]; exact Nat.le_refl _)]
           exact (nextL_mem (HC.out.code c (List.mem_of_getElem? HCI.out)) i k').2 hk') HFR.out HL.out (fun A B hs => (hs.small HC.out).1) HN.out
          have HMA := Lib.hid hmain
          have HB3 := Lib.hid hb3
          clear HB3
          cases b with
          | false => as_aux_lemma =>
           have HBE := Lib.hid (hb2 rfl)
           have HMB := Lib.hid HMA.out.none
           clear hmain hb1 hb2 hb3 HMA
           go_wp2
           go_roundg (muL k r.places.toNat A' T')
           case measure => rw [← IG.out]; exact muL_less HBE.out
           case rel => exact ⟨_, _, _, _, HMB, Lib.hid rfl⟩
          | true => as_aux_lemma =>
           have HBE := Lib.hid (hb1 rfl)
           have HB3 := Lib.hid hb3
           have HMB := Lib.hid HMA.out.all
           clear hmain hb1 hb2 hb3 HMA
           obtain ⟨nl, hnl⟩ : ∃ nl, l.length = nl := ⟨_, rfl⟩
           have a1 := HMB.out.1
           obtain ⟨vi, hvi⟩ : ∃ vi, vF[i]? = some vi := ⟨_, List.getElem?_eq_getElem (by rw [a1.rf.1, HFR.out.1, HN.out]; exact hik)⟩
           have hoi := a1.rf.2 i vi l hvi HL.out
           have hmx := own_max hoi
           rw [hnl] at hmx
           obtain ⟨Ai, ci, rfl, _⟩ := own_shape hoi
           have f0 := a1.fr.cell i
           have e0 : vF.toArray[i]? = some (.slice Ai nl ci) := by rw [← hnl]; simpa using hvi
           rw [e0] at f0
           have y2 := a1.fr.lt
           have HVI := Lib.hid hvi
           have HNL := Lib.hid hnl
           clear a1 e0 hvi hoi hnl
           go_wp2_with fail
           go_loopw [9, 181] (fun tv iv wr => ∃ (z : Nat) (T : List Int) (wt : List Bool), z ≤ nl ∧ iv = .int .i64 z ∧ Hid (MainRel r k w.heap.size (w.heap.size + 1) gF gA gB wd.heap.size (wd.heap.size + 1 + 1) #[.slice Ap r.sig.inn.length cp, .slice Aq r.sig.out.length cq, .int .i64 r.places, .slice Ar r.params.length cr, .slice (some ⟨gb, go, none⟩) r.code.length cc] w bA bB vF F tv T A' B' wt (l.drop z) wr)) (fun _ iv _ => nl - (intOf iv).toNat)
           case atStart => exact ⟨0, _, _, by omega, rfl, HMB⟩
           case round =>
            clear HMB
            obtain ⟨z, T, wt2, hz, rfl, IZ⟩ := hrel
            obtain ⟨wz, rfl⟩ : ∃ wz : World, wz = wr := ⟨_, rfl⟩
            by_cases hzl : z < nl
            ·have hzl' : decide ((z : Int) < nl) = true := by simp; omega
             have hzl2 : (z : Int) < nl := by omega
             obtain ⟨x, hx⟩ : ∃ x, l[z]? = some x := ⟨_, List.getElem?_eq_getElem (by rw [HNL.out]; exact hzl)⟩
             obtain ⟨q, rfl, hq0⟩ := HFR.out.2.1 i l HL.out x (List.mem_of_getElem? hx)
             have hqn : q < k := by rw [HN.out] at hq0; exact hq0
             have hqn2 : (q : Int) < k := by omega
             have ed : l.drop z = (q : Int) :: l.drop (z + 1) := by
              obtain ⟨hz', e⟩ := List.getElem?_eq_some_iff.1 hx
              rw [List.drop_eq_getElem_cons hz', e]
             have iz := IZ.out
             rw [ed] at iz
             have JZ := Lib.hid iz
             have hoi := iz.1.rf.2 i _ l HVI.out HL.out
             rw [HNL.out] at hoi
             have s0 := Bk.Src.of_own hoi
             obtain ⟨nb, no, rfl, hnb⟩ := s0.addr (by omega)
             have c0 := s0.at_ hzl
             rw [i64s_at (by rw [HNL.out]; exact hzl), (List.getElem?_eq_some_iff.1 hx).2] at c0
             have hwl2 : q < wt2.length := by rw [iz.2.2.2.1.lw, HN.out]; exact hqn
             obtain ⟨bq, hbq⟩ : ∃ bq, wt2[q]? = some bq := ⟨_, List.getElem?_eq_getElem hwl2⟩
             have b0 := iz.1.w.cell q
             have eb : (boolsV wt2).toArray[q]? = some (.bool bq) := by
              simp only [boolsV, List.getElem?_toArray, List.getElem?_map, hbq]
              rfl
             rw [eb] at b0
             have y3 := iz.1.w.lt
             have HBQ := Lib.hid hbq
             obtain ⟨tz, htz⟩ : ∃ tz, T.length = tz := ⟨_, rfl⟩
             have htk2 : tz ≤ 4096 := by
              have := todo_len iz.2.2.2.1
              rw [HN.out] at this
              omega
             have hov := iz.2.2.1
             rw [htz] at hov
             have HOV := Lib.hid hov
             have HTZ := Lib.hid htz
             have hzb := iz.1.base_lt
             clear hx ed iz hoi s0 hbq eb hov htz hwl2
             cases bq with
             | true =>
              have HW := Lib.hid (JZ.out.waits HBQ.out)
              clear IZ
              go_wp2
              exact ⟨⟨z + 1, _, _, by omega, by simp, HW⟩, by simp [intOf]; omega⟩
             | false =>
              obtain ⟨Av, cv, rfl, _⟩ := own_shape HOV.out
              clear IZ
              go_wp2_with (at_builtin; refine append_at _ rfl (.tmp 192) (.tmp 194) 23 rfl w.heap.size 3 (.int .i64 0) 1 8 Tryz.underlying23 info_int rfl (by omega) (.slice Av tz cv) tz (i64s T) rfl (own_alloc HOV.out _) (some ⟨wz.heap.size, 0, none⟩) 1 1 [.int .i64 (q : Int)] rfl (src_one _ _ _) (one_int _ _) (by unfold maxLen; omega) (by omega) (by simp; omega) ?_)
              rintro v2 w2 h1 h2 h3 _
              have el : i64s T ++ [.int .i64 (q : Int)] = i64s (T ++ [(q : Int)]) := by simp [i64s]
              rw [el, ← HTZ.out] at h1
              rw [← HTZ.out] at h2 h3
              have JA := JZ.out.alloc (.cells #[.int .i64 (q : Int)] 3)
              rw [← HTZ.out] at JA
              have HP := Lib.hid (JA.push HBQ.out h1 h2 (by simpa using h3))
              have hg7 := JA.1.w.grown h2 (own_ne JA.2.2.1 JA.1.w (by decide))
              have d1 := frz hg7 q
              have d2 := hg7.lt
              have d0 : w2.cell? ⟨wd.heap.size + 1 + 1, q, none⟩ = some (.bool false) := by
               rw [hg7.cell q]
               simp only [boolsV, List.getElem?_toArray, List.getElem?_map, HBQ.out]
               rfl
              clear h1 h2 h3 el JA hg7
              go_wp2
              exact ⟨⟨z + 1, _, _, by omega, by simp, HP⟩, by simp [intOf]; omega⟩
            ·have hzl' : decide ((z : Int) < nl) = false := by simp; omega
             have hzn : z = nl := by omega
             have iz := IZ.out
             have ed : l.drop z = [] := List.drop_eq_nil_of_le (by rw [HNL.out]; omega)
             rw [ed] at iz
             have JZ := Lib.hid iz
             have hT := todo_len iz.2.2.2.1
             rw [HN.out] at hT
             have HT := Lib.hid hT
             clear iz ed IZ hT
             go_wp2
             go_roundg (muL k r.places.toNat A' T)
             case measure => rw [← IG.out]; exact muL_more HBE.out HB3.out HT.out
             case rel => exact ⟨_, _, _, _, JZ, Lib.hid rfl⟩
end Go.Proofs.YtgmapikcpnffhaaGreat
