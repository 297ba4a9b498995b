/-
 The document's test of a row: bellcrankref18.Check.
 Conditions: none.
-/
import Derived.Test.YtgmapikcpnffhaaGreatLivCc
namespace Go.Proofs.YtgmapikcpnffhaaGreat
open Go.RowKit Go.Bk Go.Bk.Liv
set_option linter.unusedVariables false
set_option linter.unusedSimpArgs false
set_option maxRecDepth 100000 in
set_option maxHeartbeats 8000000 in
theorem rcheck_any (e : EnvD) (r : RowD) (ve vr : Value) (w : World) (he : EnvV w ve e) (hr : RowV w vr r) : Calls Tryz.prog 17 #[ve, vr] w (ChkPost e r w) := by
 have HE := Lib.hid he
 have HR := Lib.hid hr
 obtain ⟨va, vb, vd, rfl, h1, h2, h3⟩ := he
 obtain ⟨vp, vq, vr, vs, rfl, h4, h5, h6, h7⟩ := hr
 have H4 := Lib.hid h4
 have H5 := Lib.hid h5
 have H6 := Lib.hid h6
 have H7 := Lib.hid h7
 obtain ⟨Ap, cp, rfl⟩ := h4.shape
 obtain ⟨Aq, cq, rfl⟩ := h5.shape
 obtain ⟨Ar, cr, rfl⟩ := h6.shape
 obtain ⟨Ac, cc, rfl, _⟩ := h7.len
 obtain ⟨_, l6, l6'⟩ := h6.lenV
 obtain ⟨_, l7, l7'⟩ := h7.lenV
 have HB0 := Lib.hid (al2 w (.cells #[va, .int .i64 e.imports, vb, vd, .bool e.mem] 26) (.cells #[.slice Ap r.sig.inn.length cp, .slice Aq r.sig.out.length cq, .int .i64 r.places, .slice Ar r.params.length cr, .slice Ac r.code.length cc] 31))
 have KE := Lib.hid ((Blk.new w 26 #[va, .int .i64 e.imports, vb, vd, .bool e.mem]).alloc (.cells #[.slice Ap r.sig.inn.length cp, .slice Aq r.sig.out.length cq, .int .i64 r.places, .slice Ar r.params.length cr, .slice Ac r.code.length cc] 31))
 have KR := Lib.hid (Blk.newAt (w.alloc (.cells #[va, .int .i64 e.imports, vb, vd, .bool e.mem] 26)) (N := w.heap.size + 1) 31 #[.slice Ap r.sig.inn.length cp, .slice Aq r.sig.out.length cq, .int .i64 r.places, .slice Ar r.params.length cr, .slice Ac r.code.length cc] (by simp))
 clear h1 h2 h3 h4 h5 h6 h7
 go_enter Tryz.func17, Tryz.ntmps17
 go_wp2_with fail
 (with_reducible refine (REnvRight_any _ e _ (HE.out.below HB0.out (Nat.le_refl _))).mono ?_)
 rintro en w1 ⟨rfl, hb1⟩
 have HB := Lib.hid (HB0.out.trans (hb1.mono HB0.out.size))
 have KE := Lib.hid (KE.out.below hb1 KE.out.lt)
 have KR := Lib.hid (KR.out.below hb1 KR.out.lt)
 clear hb1
 obtain ⟨r0, r1, r2, r3, r4⟩ := blk5 KR.out
 obtain ⟨d0, d1, d2, d3, d4⟩ := blk5 KE.out
 have y0 := KE.out.lt
 have y1 := KR.out.lt
 cases q0 : envOk e with
 | false =>
  have Q := Lib.hid q0
  clear q0
  go_wp2
  go_ret
  exact ChkPost.no (fun hC => by have := hC.env; rw [Q.out] at this; cases this) HB.out
 | true =>
  have Q0 := Lib.hid q0
  clear q0
  by_cases q2 : r.code.length = 0
  ·have g2 : decide ((r.code.length : Int) < 1) = true := decide_eq_true (by omega)
   have g2n : decide (r.code.length < 1) = true := decide_eq_true (by omega)
   have g2e : r.code = [] := List.eq_nil_of_length_eq_zero q2
   have Q := Lib.hid q2
   clear q2
   go_wp2
   go_ret
   exact ChkPost.no (fun hC => by have := hC.n1; rw [Q.out] at this; omega) HB.out
  have g2 : decide ((r.code.length : Int) < 1) = false := decide_eq_false (by omega)
  have g2n : decide (r.code.length < 1) = false := decide_eq_false (by omega)
  have g2e : ¬ r.code = [] := fun e => q2 (by rw [e]; rfl)
  have hn1 : 1 ≤ r.code.length := by omega
  by_cases q3 : 4096 < r.code.length
  ·have g3 : decide (4096 < (r.code.length : Int)) = true := by simp; omega
   have g3n : decide (4096 < r.code.length) = true := by simp; omega
   go_wp2
   go_ret
   exact ChkPost.no (fun hC => by have := hC.n2; omega) HB.out
  have g3 : decide (4096 < (r.code.length : Int)) = false := by simp; omega
  have g3n : decide (4096 < r.code.length) = false := by simp; omega
  have hn2 : r.code.length ≤ 4096 := by omega
  by_cases q4 : r.places < 0
  ·have g4 : decide (r.places < 0) = true := by simpa using q4
   go_wp2
   go_ret
   exact ChkPost.no (fun hC => by have := hC.p1; omega) HB.out
  have g4 : decide (r.places < 0) = false := by simpa using q4
  by_cases q5 : 4096 < r.places
  ·have g5 : decide (4096 < r.places) = true := by simpa using q5
   go_wp2
   go_ret
   exact ChkPost.no (fun hC => by have := hC.p2; omega) HB.out
  have g5 : decide (4096 < r.places) = false := by simpa using q5
  by_cases qi : 8 < r.sig.inn.length
  ·have gi : decide (8 < (r.sig.inn.length : Int)) = true := by simp; omega
   have gin : decide (8 < r.sig.inn.length) = true := by simp; omega
   go_wp2
   go_ret
   exact ChkPost.no (fun hC => by have := (sig_len hC.sig).1; omega) HB.out
  have gi : decide (8 < (r.sig.inn.length : Int)) = false := by simp; omega
  have gin : decide (8 < r.sig.inn.length) = false := by simp; omega
  by_cases qo : 8 < r.sig.out.length
  ·have go' : decide (8 < (r.sig.out.length : Int)) = true := by simp; omega
   have gon : decide (8 < r.sig.out.length) = true := by simp; omega
   go_wp2
   go_ret
   exact ChkPost.no (fun hC => by have := (sig_len hC.sig).2; omega) HB.out
  have go' : decide (8 < (r.sig.out.length : Int)) = false := by simp; omega
  have gon : decide (8 < r.sig.out.length) = false := by simp; omega
  by_cases q6 : r.params.length = r.sig.inn.length
  ·have g6 : ((r.params.length : Int) != (r.sig.inn.length : Int)) = false := by simp; omega
   have g6n : (r.params.length != r.sig.inn.length) = false := by simp; omega
   have Q6 := Lib.hid q6
   clear q6
   go_wp2_with fail
   (with_reducible refine (places_any true r.places _ r.params _ (H6.out.ir.below HB.out (Nat.le_refl _)) (by omega)).mono ?_)
   rintro en w3 ⟨rfl, m3, rfl⟩
   have HB := Lib.hid (below_drewN HB.out m3)
   have KE := Lib.hid (KE.out.drewN m3)
   have KR := Lib.hid (KR.out.drewN m3)
   generalize w1.drewN m3 = w1 at *
   clear r0 r1 r2 r3 r4 d0 d1 d2 d3 d4 y0 y1
   obtain ⟨r0, r1, r2, r3, r4⟩ := blk5 KR.out
   obtain ⟨d0, d1, d2, d3, d4⟩ := blk5 KE.out
   have y0 := KE.out.lt
   have y1 := KR.out.lt
   cases q7 : placesB r.places r.params true with
   | false =>
    have Q := Lib.hid q7
    clear q7
    go_wp2
    go_ret
    exact ChkPost.no (fun hC => by
     have h := Q.out
     unfold placesB at h
     rw [hC.pin, decide_eq_true hC.pun] at h
     cases h) HB.out
   | true =>
    have Q7 := Lib.hid (show within r.places r.params = true ∧ r.params.Nodup by
     unfold placesB at q7
     simpa using q7)
    clear q7
    have HBa := Lib.hid (HB.out.alloc HB.out.size (.cells #[.slice Ap r.sig.inn.length cp, .slice Aq r.sig.out.length cq] 28))
    have KEa := Lib.hid (KE.out.alloc (.cells #[.slice Ap r.sig.inn.length cp, .slice Aq r.sig.out.length cq] 28))
    have KRa := Lib.hid (KR.out.alloc (.cells #[.slice Ap r.sig.inn.length cp, .slice Aq r.sig.out.length cq] 28))
    go_wp2_with fail
    (with_reducible refine (REnvRight_any _ (sigE r.sig) _ (sigE_v (Blk.new w1 28 #[.slice Ap r.sig.inn.length cp, .slice Aq r.sig.out.length cq]) (H4.out.below HBa.out (Nat.le_refl _)) (H5.out.below HBa.out (Nat.le_refl _)))).mono ?_)
    rintro en w2 ⟨rfl, hb2⟩
    rw [sigE_ok]
    have HB := Lib.hid (HBa.out.trans (hb2.mono HBa.out.size))
    have KE := Lib.hid (KEa.out.below hb2 KEa.out.lt)
    have KR := Lib.hid (KRa.out.below hb2 KRa.out.lt)
    clear hb2
    clear r0 r1 r2 r3 r4 d0 d1 d2 d3 d4 y0 y1
    cases q1 : sigOk r.sig with
    | false =>
     have Q := Lib.hid q1
     clear q1
     go_wp2
     go_ret
     exact ChkPost.no (fun hC => by have := hC.sig; rw [Q.out] at this; cases this) HB.out
    | true =>
     have Q1 := Lib.hid q1
     clear q1
     obtain ⟨n, hn⟩ : ∃ n, r.code.length = n := ⟨_, rfl⟩
     have HN := Lib.hid hn
     have HPP := Lib.hid (show 0 ≤ r.places ∧ r.places ≤ 4096 by omega)
     have hK := Lib.hid (show 0 < n ∧ n ≤ 4096 by omega)
     rw [hn] at KR HR ⊢
     rw [hn] at hn1 hn2
     clear hn g2 g2n g2e g3 g3n q2 q3 q4 q5 g4 g5 qi qo gi gin go' gon g6 g6n l6 l6' l7 l7' HB0 KEa KRa HBa
     go_wp2
     go_loopw [6] (fun i wr => ∃ k : Nat, k ≤ n ∧ i = .int .i64 k ∧ Hid (∀ c ∈ r.code.take k, codeOk e r c = true) ∧ Hid (Below w.heap.size w wr) ∧ Hid (Blk wr w.heap.size 26 #[va, .int .i64 e.imports, vb, vd, .bool e.mem]) ∧ Hid (Blk wr (w.heap.size + 1) 31 #[.slice Ap r.sig.inn.length cp, .slice Aq r.sig.out.length cq, .int .i64 r.places, .slice Ar r.params.length cr, .slice Ac n cc])) (fun i _ => n - (intOf i).toNat)
     case atStart => exact ⟨0, by omega, rfl, Lib.hid (by simp), HB, KE, KR⟩
     case round =>
      clear HB KE KR
      obtain ⟨k, hk, rfl, IC, HB, KE, KR⟩ := hrel
      obtain ⟨r0, r1, r2, r3, r4⟩ := blk5 KR.out
      obtain ⟨d0, d1, d2, d3, d4⟩ := blk5 KE.out
      have y0 := KE.out.lt
      have y1 := KR.out.lt
      by_cases hkn : k < n
      ·have t1 : decide ((k : Int) < n) = true := by simp; omega
       have t2 : (k : Int) < n := by omega
       obtain ⟨c, hc⟩ : ∃ c, r.code[k]? = some c := ⟨_, List.getElem?_eq_getElem (by rw [HN.out]; exact hkn)⟩
       have HC := Lib.hid hc
       clear hc
       go_wp2_with fail
       (with_reducible refine (rcode_any e r c k _ _ _ (HE.out.below HB.out (Nat.le_refl _)) (HR.out.below HB.out (Nat.le_refl _)) HC.out Q0.out Q1.out (by rw [HN.out]; exact hn2)).mono ?_)
       rintro en w5 ⟨rfl, hb5⟩
       have HB2 := Lib.hid (HB.out.trans (hb5.mono HB.out.size))
       have KE2 := Lib.hid (KE.out.below hb5 KE.out.lt)
       have KR2 := Lib.hid (KR.out.below hb5 KR.out.lt)
       clear hb5 r0 r1 r2 r3 r4 d0 d1 d2 d3 d4 y0 y1
       cases q9 : codeOk e r c with
       | false =>
        have Q := Lib.hid q9
        clear q9
        go_wp2
        go_ret
        exact ChkPost.no (fun hC => by have := hC.code c (List.mem_of_getElem? HC.out); rw [Q.out] at this; cases this) HB2.out
       | true =>
        have HA := Lib.hid (show ∀ c ∈ r.code.take (k + 1), codeOk e r c = true from fun c' hc' => by
         obtain ⟨hk', e'⟩ := List.getElem?_eq_some_iff.1 HC.out
         rw [List.take_succ_eq_append_getElem hk', e', List.mem_append] at hc'
         rcases hc' with h | h
         ·exact IC.out c' h
         ·simp at h; rw [h]; exact q9)
        clear q9 IC
        go_wp2
        exact ⟨⟨k + 1, by omega, by simp, HA, HB2, KE2, KR2⟩, by simp [intOf]; omega⟩
      ·have t1 : decide ((k : Int) < n) = false := by simp; omega
       have Q9 := Lib.hid (show ∀ c ∈ r.code, codeOk e r c = true by
        have := IC.out
        rwa [List.take_of_length_le (by rw [HN.out]; omega)] at this)
       have hn12 : (0 : Int) < (n : Int) := by omega
       have hn13 : 0 < n := by omega
       obtain ⟨c0, hc0⟩ : ∃ c0, r.code[0]? = some c0 := ⟨_, List.getElem?_eq_getElem (by rw [HN.out]; omega)⟩
       obtain ⟨c1, hc1⟩ : ∃ c1, r.code[r.code.length - 1]? = some c1 := ⟨_, List.getElem?_eq_getElem (by rw [HN.out]; omega)⟩
       have H7' := H7.out.below HB.out (Nat.le_refl _) (fun _ _ h => h.below HB.out (Nat.le_refl _))
       rw [HN.out] at H7'
       obtain ⟨gb, go, p, q, t, eA, hgb, m0, _⟩ := H7'.code hc0
       obtain ⟨gb', go', p', q', t', eA', hgb', m1, _⟩ := H7'.code hc1
       subst eA
       injection eA' with eA'
       injection eA' with e1 e2
       subst e1
       subst e2
       rw [HN.out] at m1
       obtain ⟨kk, hkk⟩ : ∃ kk, n = kk + 1 := ⟨n - 1, by omega⟩
       have m1 := m1
       rw [hkk] at m1
       simp only [Nat.add_sub_cancel, Nat.zero_mul, Nat.add_zero] at m0 m1
       have hkl : (kk : Int) < (n : Int) := by omega
       have hkl2 : kk < n := by omega
       have hks : IntKind.i64.wrap ((n : Int) - 1) = (kk : Int) := by rw [show (n : Int) - 1 = (kk : Int) by omega]; exact IntWalk.i64_in _ (by omega)
       have C0 := Lib.hid hc0
       have C1 := Lib.hid hc1
       have HK := Lib.hid hkk
       clear hc0 hc1 H7' hkk
       have hNO := Lib.hid (fun (h : ¬ (c0.op = 258 ∧ (273 ≤ c1.op ∧ c1.op ≤ 277) ∧ c1.op ≠ 274)) => (show ¬ CheckP e r from fun hC => h ⟨hC.first c0 C0.out, by have := hC.last c1 C1.out; omega, by have := hC.last c1 C1.out; omega⟩))
       by_cases q10 : c0.op = 258
       ·have g10 : (c0.op == 258) = true := by simpa using q10
        have Q10 := Lib.hid q10
        clear q10
        go_wp2_with fail
        (with_reducible refine (Goes_any c1.op _).mono ?_)
        rintro en w6 ⟨rfl, rfl⟩
        by_cases q11 : 273 ≤ c1.op ∧ c1.op ≤ 277
        ·rw [decide_eq_true q11]
         have Q11 := Lib.hid q11
         clear q11
         by_cases q12 : c1.op = 274
         ·have g12 : (c1.op != 274) = false := by simp [q12]
          have Q12 := Lib.hid q12
          clear q12
          go_wp2
          go_ret
          exact ChkPost.no (hNO.out (fun h => h.2.2 Q12.out)) HB.out
         ·have g12 : (c1.op != 274) = true := by simp [q12]
          have Q12 := Lib.hid q12
          clear q12
          have HEND := Lib.hid (show c1.op = 273 ∨ c1.op = 275 ∨ c1.op = 276 ∨ c1.op = 277 by have := Q11.out; have := Q12.out; omega)
          have HFL := Lib.hid (flow_of (by rw [HN.out]; exact hn1) (by rw [HN.out]; exact hn2) Q9.out (fun c hc => by rw [C1.out] at hc; injection hc with hc; rw [← hc]; exact (endOp_iff _).2 HEND.out))
          go_wp2_with fail
          (with_reducible refine (circles_any r _ _ (HR.out.below HB.out (Nat.le_refl _)) HFL.out).mono ?_)
          rintro en w7 ⟨b, rfl, hbr, hb7⟩
          have HB7 := Lib.hid (HB.out.trans (hb7.mono HB.out.size))
          have HBR := Lib.hid hbr
          clear hb7 hbr
          go_wp2
          go_ret
          refine ⟨!b, rfl, ⟨fun hb => ?_, fun hC => ?_⟩, HB7.out⟩
          ·have hnb : ¬ b = true := by simpa using hb
           have hrk : Ranked r := Classical.byContradiction fun h => hnb (HBR.out.2 h)
           exact ⟨Q0.out, Q1.out, by rw [HN.out]; exact hn1, by rw [HN.out]; exact hn2, HPP.out.1, HPP.out.2, Q6.out, Q7.out.1, Q7.out.2, Q9.out, (fun c hc => by rw [C0.out] at hc; injection hc with hc; rw [← hc]; exact Q10.out), (fun c hc => by rw [C1.out] at hc; injection hc with hc; rw [← hc]; exact HEND.out), hrk⟩
          ·cases b with
           | false => rfl
           | true => exact absurd hC.rank (HBR.out.1 rfl)
        ·rw [decide_eq_false q11]
         have Q11 := Lib.hid q11
         clear q11
         go_wp2
         go_ret
         exact ChkPost.no (hNO.out (fun h => Q11.out h.2.1)) HB.out
       ·have g10 : (c0.op == 258) = false := by simpa using q10
        have Q10 := Lib.hid q10
        clear q10
        go_wp2
        go_ret
        exact ChkPost.no (hNO.out (fun h => Q10.out h.1)) HB.out
  ·have g6 : ((r.params.length : Int) != (r.sig.inn.length : Int)) = true := by simp; omega
   have g6n : (r.params.length != r.sig.inn.length) = true := by simp; omega
   have Q6 := Lib.hid q6
   clear q6
   go_wp2
   go_ret
   exact ChkPost.no (fun hC => Q6.out hC.par) HB.out
end Go.Proofs.YtgmapikcpnffhaaGreat
