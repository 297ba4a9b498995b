/-
 The document's test of an instruction: bellcrankref18.code.
 Conditions: the environment and the row's type may be.
-/
import Derived.Test.YtgmapikcpnffhaaGreatLivRCk1
namespace Go.Proofs.YtgmapikcpnffhaaGreat
open Go.RowKit Go.Bk Go.Bk.Liv Go.Bk.Num Go.Bk.Mem
set_option linter.unusedVariables false
set_option linter.unusedSimpArgs false
def BoPost (b : Bool) (w : World) (en : Ending) (w' : World) : Prop := en = .returned (.bool b) ∧ Below w.heap.size w w'
set_option maxRecDepth 100000 in
set_option maxHeartbeats 8000000 in
theorem rcode_any (e : EnvD) (r : RowD) (c : CodeD) (i : Nat) (ve vr : Value) (w : World) (he : EnvV w ve e) (hr : RowV w vr r) (hi : r.code[i]? = some c) (hE : envOk e = true) (hS : sigOk r.sig = true) (hn2 : r.code.length ≤ 4096) :
  Calls Tryz.prog 46 #[ve, vr, .int .i64 (i : Int)] w (BoPost (codeOk e r c) w) := by
 have hiff := Lib.hid (code_iff (c := c) (r := r) hE hS)
 have hmg := Lib.hid (show e.muts.length = e.globals.length by
  unfold envOk at hE
  simp only [Bool.and_eq_true, decide_eq_true_eq] at hE
  exact hE.1.2.2.2)
 obtain ⟨bb, hbb⟩ : ∃ b, codeOk e r c = b := ⟨_, rfl⟩
 rw [hbb] at hiff ⊢
 have HE := Lib.hid he
 have HR := Lib.hid hr
 obtain ⟨va, vb, vd, rfl, h1, h2, h3⟩ := he
 obtain ⟨vp, vq, vr, vs, rfl, h4, h5, h6, h7⟩ := hr
 obtain ⟨Ap, cp, rfl⟩ := h4.shape
 obtain ⟨Aq, cq, rfl⟩ := h5.shape
 obtain ⟨Ac, cc, rfl, _⟩ := h7.len
 have hlt : i < r.code.length := (List.getElem?_eq_some_iff.1 hi).1
 have hlt2 : (i : Int) < (r.code.length : Int) := by omega
 obtain ⟨gb, go, p, q, tt, rfl, hgb, g0, g1, g2, g3, g4, s0, s1, s2, s3⟩ := h7.code hi
 obtain ⟨pA, pc, rfl⟩ := s1.shape
 obtain ⟨qA, qc, rfl⟩ := s2.shape
 obtain ⟨tA, tc, rfl⟩ := s3.shape
 have hgw : gb < w.heap.size + 1 + 1 := by omega
 have hgw1 : gb < w.heap.size + 1 := by omega
 have HSV := Lib.hid (show SigV w (.agg #[.slice Ap r.sig.inn.length cp, .slice Aq r.sig.out.length cq]) r.sig from ⟨_, _, rfl, h4, h5⟩)
 have HCV := Lib.hid (show CodeV w (.agg #[.int .i64 c.op, .int .u64 (c.n : Int), .slice pA c.args.length pc, .slice qA c.outs.length qc, .slice tA c.to.length tc]) c from ⟨_, _, _, rfl, s0, s1, s2, s3⟩)
 have HA := Lib.hid s1.ir
 have HO := Lib.hid s2.ir
 have HT := Lib.hid s3.ir
 have HB0 := Lib.hid (al3 w (.cells #[va, .int .i64 e.imports, vb, vd, .bool e.mem] 26) (.cells #[.slice Ap r.sig.inn.length cp, .slice Aq r.sig.out.length cq, .int .i64 r.places, vr, .slice (some ⟨gb, go, none⟩) r.code.length cc] 31) (.cells #[.int .i64 c.op, .int .u64 (c.n : Int), .slice pA c.args.length pc, .slice qA c.outs.length qc, .slice tA c.to.length tc] 48))
 clear h1 h2 h3 h4 h5 h6 h7 hi s0 s1 s2 s3 hbb hE hS
 go_enter Tryz.func46, Tryz.ntmps46
 have no := fun (h : ¬ (c.args.length ≤ 8 ∧ c.outs.length ≤ 8 ∧ c.to.length ≤ 65)) => (show bb = false by
  cases bb with
  | false => rfl
  | true => exact absurd (hiff.out.1 rfl).1 h)
 have NO := Lib.hid no
 clear no
 by_cases k1 : c.args.length ≤ 8
 ·have u1 : decide ((8 : Int) < (c.args.length : Int)) = false := by simp; omega
  have u1b : decide (8 < c.args.length) = false := by simp; omega
  by_cases k2 : c.outs.length ≤ 8
  ·have u2 : decide ((8 : Int) < (c.outs.length : Int)) = false := by simp; omega
   have u2b : decide (8 < c.outs.length) = false := by simp; omega
   by_cases k3 : c.to.length ≤ 65
   ·have u3 : decide ((65 : Int) < (c.to.length : Int)) = false := by simp; omega
    have u3b : decide (65 < c.to.length) = false := by simp; omega
    go_wp2_with fail
    have KR0 := Lib.hid (Blk.alloc (Blk.newAt (w.alloc (.cells #[va, .int .i64 e.imports, vb, vd, .bool e.mem] 26)) (N := w.heap.size + 1) 31 #[.slice Ap r.sig.inn.length cp, .slice Aq r.sig.out.length cq, .int .i64 r.places, vr, .slice (some ⟨gb, go, none⟩) r.code.length cc] (by simp)) (.cells #[.int .i64 c.op, .int .u64 (c.n : Int), .slice pA c.args.length pc, .slice qA c.outs.length qc, .slice tA c.to.length tc] 48))
    have KC0 := Lib.hid (Blk.newAt ((w.alloc (.cells #[va, .int .i64 e.imports, vb, vd, .bool e.mem] 26)).alloc (.cells #[.slice Ap r.sig.inn.length cp, .slice Aq r.sig.out.length cq, .int .i64 r.places, vr, .slice (some ⟨gb, go, none⟩) r.code.length cc] 31)) (N := w.heap.size + 1 + 1) 48 #[.int .i64 c.op, .int .u64 (c.n : Int), .slice pA c.args.length pc, .slice qA c.outs.length qc, .slice tA c.to.length tc] (by simp))
    refine (lForm_any e r.sig c _ _ _ _ (HE.out.below HB0.out (Nat.le_refl _)) (HSV.out.below HB0.out (Nat.le_refl _)) (HCV.out.below HB0.out (Nat.le_refl _)) hmg.out).mono ?_
    rintro en w1 ⟨vi, vo, ok, ii, oo, rfl, q1, q2, q3, q4, q5⟩
    obtain ⟨Ai, ci, rfl⟩ := q1.shape
    obtain ⟨Ao, co, rfl⟩ := q2.shape
    have HB1 := Lib.hid (HB0.out.trans (q5.mono HB0.out.size))
    have KR1 := Lib.hid (KR0.out.below q5 KR0.out.lt)
    have KC1 := Lib.hid (KC0.out.below q5 KC0.out.lt)
    have Q3 := Lib.hid q3
    have Q4 := Lib.hid q4
    have K3 := Lib.hid (show c.args.length ≤ 8 ∧ c.outs.length ≤ 8 ∧ c.to.length ≤ 65 from ⟨k1, k2, k3⟩)
    clear q1 q2 q3 q4 q5 u1 u1b u2 u2b u3 u3b g0 g1 g2 g3 g4 NO
    cases hf : formV e r.sig c.op c.n with
    | none =>
     have hok := Q3.out hf
     subst hok
     have HF := Lib.hid (show bb = false by
      cases bb with
      | false => rfl
      | true => obtain ⟨_, _, _, h, _⟩ := hiff.out.1 rfl; rw [hf] at h; cases h)
     clear hf
     go_wp2
     go_ret
     exact ⟨by rw [HF.out]; rfl, HB1.out⟩
    | some x =>
     obtain ⟨hok, hx⟩ := Q4.out x hf
     subst hok
     subst hx
     have HV := Lib.hid hf
     have hiff2 := Lib.hid (show bb = true ↔ (ii.length = c.args.length ∧ oo.length = c.outs.length ∧ placesB r.places c.args false = true ∧ placesB r.places c.outs true = true ∧ placesB r.code.length c.to false = true ∧ toTest c = true) by
      rw [hiff.out]
      constructor
      ·rintro ⟨_, i', o', h, h2⟩
       rw [hf] at h
       injection h with h
       injection h with e1 e2
       subst e1
       subst e2
       exact h2
      ·intro h
       exact ⟨K3.out, ii, oo, hf, h⟩)
     clear hf hiff Q3 Q4
     have NO2 := Lib.hid (fun (h : ¬ (ii.length = c.args.length ∧ oo.length = c.outs.length ∧ placesB r.places c.args false = true ∧ placesB r.places c.outs true = true ∧ placesB r.code.length c.to false = true ∧ toTest c = true)) => (show bb = false by
      cases bb with
      | false => rfl
      | true => exact absurd (hiff2.out.1 rfl) h))
     obtain ⟨c0, c1, c2, c3, c4⟩ := blk5 KC1.out
     obtain ⟨r0, r1, r2, r3, r4⟩ := blk5 KR1.out
     have y1 := KC1.out.lt
     have y2 := KR1.out.lt
     by_cases m1 : ii.length = c.args.length
     ·have v1 : ((ii.length : Int) != (c.args.length : Int)) = false := by simp; omega
      have M1 := Lib.hid m1
      clear m1
      by_cases m2 : oo.length = c.outs.length
      ·have v2 : ((oo.length : Int) != (c.outs.length : Int)) = false := by simp; omega
       have M2 := Lib.hid m2
       clear m2
       go_wp2_with fail
       refine (places_any false r.places _ c.args _ (HA.out.below HB1.out (Nat.le_refl _)) (by have := K3.out; omega)).mono ?_
       rintro en w2 ⟨rfl, m2, rfl⟩
       cases hp2 : placesB r.places c.args false with
       | false =>
        have HF := Lib.hid (NO2.out (fun h => by have h := h.2.2.1; rw [hp2] at h; cases h))
        clear hp2
        go_wp2
        go_ret
        exact ⟨by rw [HF.out]; rfl, below_drewN HB1.out _⟩
       | true =>
        have P2 := Lib.hid hp2
        clear hp2
        go_wp2_with fail
        refine (places_any true r.places _ c.outs _ ((HO.out.below HB1.out (Nat.le_refl _)).drewN _) (by have := K3.out; omega)).mono ?_
        rintro en w3 ⟨rfl, m3, rfl⟩
        cases hp3 : placesB r.places c.outs true with
        | false =>
         have HF := Lib.hid (NO2.out (fun h => by have h := h.2.2.2.1; rw [hp3] at h; cases h))
         clear hp3
         go_wp2
         go_ret
         exact ⟨by rw [HF.out]; rfl, below_drewN HB1.out _⟩
        | true =>
         have P3 := Lib.hid hp3
         clear hp3
         go_wp2_with fail
         refine (places_any false (r.code.length : Int) _ c.to _ ((HT.out.below HB1.out (Nat.le_refl _)).drewN _) (by have := K3.out; omega)).mono ?_
         rintro en w4 ⟨rfl, m4, rfl⟩
         cases hp4 : placesB (r.code.length : Int) c.to false with
         | false =>
          have HF := Lib.hid (NO2.out (fun h => by have h := h.2.2.2.2.1; rw [hp4] at h; cases h))
          clear hp4
          go_wp2
          go_ret
          exact ⟨by rw [HF.out]; rfl, below_drewN HB1.out _⟩
         | true =>
          have P4 := Lib.hid hp4
          clear hp4
          have HTT := Lib.hid (show bb = toTest c by
           cases ht : toTest c with
           | true => exact hiff2.out.2 ⟨M1.out, M2.out, P2.out, P3.out, P4.out, ht⟩
           | false => exact NO2.out (fun h => by have h := h.2.2.2.2.2; rw [ht] at h; cases h))
          by_cases t1 : c.op = 273
          ·have z1 : (c.op == 273) = true := by simp [t1]
           by_cases l1 : c.to.length = 1
           ·have z4 : ((c.to.length : Int) == 1) = true := beq_iff_eq.2 (by omega)
            have HF := Lib.hid (show bb = true by rw [HTT.out]; simp [toTest, t1, l1])
            clear t1 l1
            go_wp2
            go_ret
            exact ⟨by rw [HF.out]; rfl, below_drewN HB1.out _⟩
           ·have z4 : ((c.to.length : Int) == 1) = false := beq_eq_false_iff_ne.2 (by omega)
            have HF := Lib.hid (show bb = false by rw [HTT.out]; simp [toTest, t1, l1])
            clear t1 l1
            go_wp2
            go_ret
            exact ⟨by rw [HF.out]; rfl, below_drewN HB1.out _⟩
          have z1 : (c.op == 273) = false := by simp [t1]
          by_cases t2 : c.op = 274
          ·have z2 : (c.op == 274) = true := by simp [t2]
           by_cases l1 : c.to.length = 1
           ·have z4 : ((c.to.length : Int) == 1) = true := beq_iff_eq.2 (by omega)
            have HF := Lib.hid (show bb = true by rw [HTT.out]; simp [toTest, t2, l1])
            clear t1 t2 l1
            go_wp2
            go_ret
            exact ⟨by rw [HF.out]; rfl, below_drewN HB1.out _⟩
           ·have z4 : ((c.to.length : Int) == 1) = false := beq_eq_false_iff_ne.2 (by omega)
            have HF := Lib.hid (show bb = false by rw [HTT.out]; simp [toTest, t2, l1])
            clear t1 t2 l1
            go_wp2
            go_ret
            exact ⟨by rw [HF.out]; rfl, below_drewN HB1.out _⟩
          have z2 : (c.op == 274) = false := by simp [t2]
          by_cases t3 : c.op = 275
          ·have z3 : (c.op == 275) = true := by simp [t3]
           by_cases l1 : 1 ≤ c.to.length
           ·have z4 : decide ((1 : Int) ≤ (c.to.length : Int)) = true := decide_eq_true (by omega)
            have z5 : decide (1 ≤ c.to.length) = true := decide_eq_true (by omega)
            have z6 : decide (0 < c.to.length) = true := decide_eq_true (by omega)
            have HF := Lib.hid (show bb = true by rw [HTT.out]; unfold toTest; rw [if_neg (by omega), if_pos t3]; exact decide_eq_true l1)
            clear t1 t2 t3 l1
            go_wp2
            go_ret
            exact ⟨by rw [HF.out]; rfl, below_drewN HB1.out _⟩
           ·have z4 : decide ((1 : Int) ≤ (c.to.length : Int)) = false := decide_eq_false (by omega)
            have z5 : decide (1 ≤ c.to.length) = false := decide_eq_false (by omega)
            have z6 : decide (0 < c.to.length) = false := decide_eq_false (by omega)
            have HF := Lib.hid (show bb = false by rw [HTT.out]; unfold toTest; rw [if_neg (by omega), if_pos t3]; exact decide_eq_false l1)
            clear t1 t2 t3 l1
            go_wp2
            go_ret
            exact ⟨by rw [HF.out]; rfl, below_drewN HB1.out _⟩
          have z3 : (c.op == 275) = false := by simp [t3]
          by_cases l1 : c.to.length = 0
          ·have z4 : ((c.to.length : Int) == 0) = true := beq_iff_eq.2 (by omega)
           have HF := Lib.hid (show bb = true by rw [HTT.out]; unfold toTest; rw [if_neg (by omega), if_neg t3]; exact decide_eq_true l1)
           clear t1 t2 t3 l1
           go_wp2
           go_ret
           exact ⟨by rw [HF.out]; rfl, below_drewN HB1.out _⟩
          ·have z4 : ((c.to.length : Int) == 0) = false := beq_eq_false_iff_ne.2 (by omega)
           have HF := Lib.hid (show bb = false by rw [HTT.out]; unfold toTest; rw [if_neg (by omega), if_neg t3]; exact decide_eq_false l1)
           clear t1 t2 t3 l1
           go_wp2
           go_ret
           exact ⟨by rw [HF.out]; rfl, below_drewN HB1.out _⟩
      ·have v2 : ((oo.length : Int) != (c.outs.length : Int)) = true := by simp; omega
       have HF := Lib.hid (NO2.out (fun h => m2 h.2.1))
       clear m2
       go_wp2
       go_ret
       exact ⟨by rw [HF.out]; rfl, HB1.out⟩
     ·have v1 : ((ii.length : Int) != (c.args.length : Int)) = true := by simp; omega
      have HF := Lib.hid (NO2.out (fun h => m1 h.1))
      clear m1
      go_wp2
      go_ret
      exact ⟨by rw [HF.out]; rfl, HB1.out⟩
   ·have u3 : decide ((65 : Int) < (c.to.length : Int)) = true := by simp; omega
    have u3b : decide (65 < c.to.length) = true := by simp; omega
    have HF := Lib.hid (NO.out (fun h => k3 h.2.2))
    clear k3
    go_wp2
    go_ret
    exact ⟨by rw [HF.out]; rfl, HB0.out⟩
  ·have u2 : decide ((8 : Int) < (c.outs.length : Int)) = true := by simp; omega
   have u2b : decide (8 < c.outs.length) = true := by simp; omega
   have HF := Lib.hid (NO.out (fun h => k2 h.2.1))
   clear k2
   go_wp2
   go_ret
   exact ⟨by rw [HF.out]; rfl, HB0.out⟩
 ·have u1 : decide ((8 : Int) < (c.args.length : Int)) = true := by simp; omega
  have u1b : decide (8 < c.args.length) = true := by simp; omega
  have HF := Lib.hid (NO.out (fun h => k1 h.1))
  clear k1
  go_wp2
  go_ret
  exact ⟨by rw [HF.out]; rfl, HB0.out⟩
end Go.Proofs.YtgmapikcpnffhaaGreat
