/-
 lower.Check: whether a row may be.
 Conditions: none.
-/
import Derived.Test.YtgmapikcpnffhaaGreatLivRing4
namespace Go.Bk.Liv
open Go Go.RowKit Go.Bk
theorem Structs.oneSig {w : World} {g : Nat} {t : TypeId} {p q : Value} {s : SigD} (h : Blk w g t #[p, q]) (h1 : Ints w p s.inn) (h2 : Ints w q s.out) : Structs 2 SigC w (.slice (some ⟨g, 0, none⟩) 1 1) [s] := by
 refine ⟨some ⟨g, 0, none⟩, 1, [[p, q]], rfl, by simp, (fun e => by cases e), by simp, rfl, by simp, fun i r x q1 q2 => ?_, ?_⟩
 ·match i, q1, q2 with
  | 0, q1, q2 =>
   simp at q1 q2
   subst q1
   subst q2
   exact ⟨p, q, rfl, h1, h2⟩
 ·have := h.src 2 (by simp)
  simpa using this
def sigE (s : SigD) : EnvD := ⟨[s], 0, [], [], false⟩
theorem sigE_ok (s : SigD) : envOk (sigE s) = sigOk s := by
 simp [envOk, sigE, kindsOk]
theorem sigE_v {w : World} {g : Nat} {t : TypeId} {p q : Value} {s : SigD} (h : Blk w g t #[p, q]) (h1 : Ints w p s.inn) (h2 : Ints w q s.out) : EnvV w (.agg #[.slice (some ⟨g, 0, none⟩) 1 1, .int .i64 0, .slice none 0 0, .slice none 0 0, .bool false]) (sigE s) :=
 ⟨_, _, _, rfl, Structs.oneSig h h1 h2, Ints.nil w, ⟨none, 0, rfl, Src.nil _ _, Nat.le_refl _, fun _ => rfl, by simp [sigE]⟩⟩

def endOp (op : Int) : Bool := decide (op ∈ [(273 : Int), 275, 276, 277])
theorem endOp_iff (op : Int) : endOp op = true ↔ (op = 273 ∨ op = 275 ∨ op = 276 ∨ op = 277) := by simp [endOp]
theorem codeOk_to {e : EnvD} {r : RowD} {c : CodeD} (h : codeOk e r c = true) : (∀ x ∈ c.to, 0 ≤ x ∧ x < r.code.length) ∧ toLo c.op ≤ c.to.length ∧ (c.to.length : Int) ≤ toHi c.op := by
 unfold codeOk at h
 split at h
 ·cases h
 ·simp only [Bool.and_eq_true, decide_eq_true_eq] at h
  obtain ⟨⟨_, _, h1, h2⟩, _, _, _, h3⟩ := h
  refine ⟨fun x hx => ?_, h1, h2⟩
  have := List.all_eq_true.1 h3 x hx
  simpa using this
theorem flow_of {e : EnvD} {r : RowD} (n1 : 1 ≤ r.code.length) (n2 : r.code.length ≤ 4096) (hc : ∀ c ∈ r.code, codeOk e r c = true) (hl : ∀ c, r.code[r.code.length - 1]? = some c → endOp c.op = true) : FlowOk r := by
 refine ⟨n1, n2, fun i c hi => ?_⟩
 obtain ⟨h1, h2, h3⟩ := codeOk_to (hc c (List.mem_of_getElem? hi))
 have hlt := (List.getElem?_eq_some_iff.1 hi).1
 have hnx : endOp c.op = false → (i : Int) + 1 < r.code.length := by
  intro he
  by_cases hh : i = r.code.length - 1
  ·rw [hh] at hi
   have := hl c hi
   rw [he] at this
   cases this
  ·omega
 have h274 : c.op = 274 → 0 < c.to.length := by
  intro e
  rw [e] at h2
  simp [toLo] at h2
  omega
 have hto : c.to.length ≤ 65 := by
  have : toHi c.op ≤ 65 := by unfold toHi; split; omega; split <;> omega
  omega
 refine ⟨fun x hx => ?_, h274, ?_⟩
 ·unfold nextOf at hx
  split at hx
  ·simp at hx
  ·rename_i q1
   split at hx
   ·exact h1 x hx
   ·rename_i q2
    have he : endOp c.op = false := by
     rw [Bool.eq_false_iff]
     intro h
     rw [endOp_iff] at h
     omega
    have := hnx he
    split at hx
    ·rename_i q3
     simp at hx
     rcases hx with hx | hx
     ·omega
     ·have h0 := h274 q3
      cases hct : c.to with
      | nil => rw [hct] at h0; simp at h0
      | cons a l =>
       rw [hct] at hx
       simp at hx
       subst hx
       exact h1 _ (by rw [hct]; simp)
    ·simp at hx
     omega
 ·unfold nextOf
  split
  ·simp
  ·split
   ·omega
   ·split <;> simp
theorem CheckP.flow {e : EnvD} {r : RowD} (h : CheckP e r) : FlowOk r := flow_of h.n1 h.n2 h.code (fun c hc => (endOp_iff _).2 (h.last c hc))
theorem env_muts {e : EnvD} (h : envOk e = true) : e.muts.length = e.globals.length := by
 simp only [envOk, Bool.and_eq_true, decide_eq_true_eq] at h
 exact h.1.2.2.2
end Go.Bk.Liv
namespace Go.Proofs.YtgmapikcpnffhaaGreat
open Go.RowKit Go.Bk Go.Bk.Liv
set_option linter.unusedVariables false
set_option linter.unusedSimpArgs false

def ChkPost (e : EnvD) (r : RowD) (w : World) (en : Ending) (w' : World) : Prop := ∃ b : Bool, en = .returned (.bool b) ∧ (b = true ↔ CheckP e r) ∧ Below w.heap.size w w'
theorem ChkPost.no {e : EnvD} {r : RowD} {w w' : World} (h : ¬ CheckP e r) (hb : Below w.heap.size w w') : ChkPost e r w (.returned (.bool false)) w' := ⟨false, rfl, ⟨(fun h => by cases h), (fun hh => absurd hh h)⟩, hb⟩

set_option maxRecDepth 100000 in
set_option maxHeartbeats 8000000 in
theorem Check_any (e : EnvD) (r : RowD) (ve vr : Value) (w : World) (he : EnvV w ve e) (hr : RowV w vr r) : Calls Tryz.prog 27 #[ve, vr] w (ChkPost e r w) := by
 have HE := Lib.hid he
 have HR := Lib.hid hr
 obtain ⟨va, vb, vd, rfl, h1, h2, h3⟩ := he
 obtain ⟨As, cs, rfl, _⟩ := h1.len
 obtain ⟨Ag, cg, rfl⟩ := h2.shape
 obtain ⟨Am, cm, rfl, _⟩ := h3
 obtain ⟨vp, vq, vr, vs, rfl, h4, h5, h6, h7⟩ := hr
 have H4 := Lib.hid h4
 have H5 := Lib.hid h5
 have H6 := Lib.hid h6
 have H7 := Lib.hid h7
 obtain ⟨Ap, cp, rfl⟩ := h4.shape
 obtain ⟨Aq, cq, rfl⟩ := h5.shape
 obtain ⟨Ar, cr, rfl⟩ := h6.shape
 obtain ⟨Ac, cc, rfl, _⟩ := h7.len
 obtain ⟨_, l6, l6'⟩ := h6.lenV
 obtain ⟨_, l7, l7'⟩ := h7.lenV
 have HB0 := Lib.hid (al2 w (.cells #[.slice As e.sigs.length cs, .int .i64 e.imports, .slice Ag e.globals.length cg, .slice Am e.muts.length cm, .bool e.mem] 26) (.cells #[.slice Ap r.sig.inn.length cp, .slice Aq r.sig.out.length cq, .int .i64 r.places, .slice Ar r.params.length cr, .slice Ac r.code.length cc] 31))
 have KE := Lib.hid ((Blk.new w 26 #[.slice As e.sigs.length cs, .int .i64 e.imports, .slice Ag e.globals.length cg, .slice Am e.muts.length cm, .bool e.mem]).alloc (.cells #[.slice Ap r.sig.inn.length cp, .slice Aq r.sig.out.length cq, .int .i64 r.places, .slice Ar r.params.length cr, .slice Ac r.code.length cc] 31))
 have KR := Lib.hid (Blk.newAt (w.alloc (.cells #[.slice As e.sigs.length cs, .int .i64 e.imports, .slice Ag e.globals.length cg, .slice Am e.muts.length cm, .bool e.mem] 26)) (N := w.heap.size + 1) 31 #[.slice Ap r.sig.inn.length cp, .slice Aq r.sig.out.length cq, .int .i64 r.places, .slice Ar r.params.length cr, .slice Ac r.code.length cc] (by simp))
 clear h1 h2 h4 h5 h6 h7
 go_enter Tryz.func27, Tryz.ntmps27
 go_wp2_with fail
 refine (EnvRight_any _ e _ (HE.out.below HB0.out (Nat.le_refl _))).mono ?_
 rintro en w1 ⟨rfl, hb1⟩
 have HB := Lib.hid (HB0.out.trans (hb1.mono HB0.out.size))
 have KE := Lib.hid (KE.out.below hb1 KE.out.lt)
 have KR := Lib.hid (KR.out.below hb1 KR.out.lt)
 clear hb1
 obtain ⟨r0, r1, r2, r3, r4⟩ := blk5 KR.out
 obtain ⟨d0, d1, d2, d3, d4⟩ := blk5 KE.out
 have y0 := KE.out.lt
 have y1 := KR.out.lt
 cases q0 : envOk e with
 | false =>
  have Q := Lib.hid q0
  clear q0
  go_wp2
  go_ret
  exact ChkPost.no (fun hC => by have := hC.env; rw [Q.out] at this; cases this) HB.out
 | true =>
  have Q0 := Lib.hid q0
  clear q0
  have HBa := Lib.hid (HB.out.alloc HB.out.size (.cells #[.slice Ap r.sig.inn.length cp, .slice Aq r.sig.out.length cq] 28))
  have KEa := Lib.hid (KE.out.alloc (.cells #[.slice Ap r.sig.inn.length cp, .slice Aq r.sig.out.length cq] 28))
  have KRa := Lib.hid (KR.out.alloc (.cells #[.slice Ap r.sig.inn.length cp, .slice Aq r.sig.out.length cq] 28))
  go_wp2_with fail
  refine (EnvRight_any _ (sigE r.sig) _ (sigE_v (Blk.new w1 28 #[.slice Ap r.sig.inn.length cp, .slice Aq r.sig.out.length cq]) (H4.out.below HBa.out (Nat.le_refl _)) (H5.out.below HBa.out (Nat.le_refl _)))).mono ?_
  rintro en w2 ⟨rfl, hb2⟩
  rw [sigE_ok]
  have HB := Lib.hid (HBa.out.trans (hb2.mono HBa.out.size))
  have KE := Lib.hid (KEa.out.below hb2 KEa.out.lt)
  have KR := Lib.hid (KRa.out.below hb2 KRa.out.lt)
  clear hb2
  clear r0 r1 r2 r3 r4 d0 d1 d2 d3 d4 y0 y1
  obtain ⟨r0, r1, r2, r3, r4⟩ := blk5 KR.out
  obtain ⟨d0, d1, d2, d3, d4⟩ := blk5 KE.out
  have y0 := KE.out.lt
  have y1 := KR.out.lt
  cases q1 : sigOk r.sig with
  | false =>
   have Q := Lib.hid q1
   clear q1
   go_wp2
   go_ret
   exact ChkPost.no (fun hC => by have := hC.sig; rw [Q.out] at this; cases this) HB.out
  | true =>
   have Q1 := Lib.hid q1
   clear q1
   by_cases q2 : r.code.length = 0
   ·have g2 : ((r.code.length : Int) == 0) = true := by rw [q2]; rfl
    have g2n : (r.code.length == 0) = true := by rw [q2]; rfl
    have g2e : r.code = [] := List.eq_nil_of_length_eq_zero q2
    have Q := Lib.hid q2
    clear q2
    go_wp2
    go_ret
    exact ChkPost.no (fun hC => by have := hC.n1; rw [Q.out] at this; omega) HB.out
   have g2 : ((r.code.length : Int) == 0) = false := by rw [beq_eq_false_iff_ne]; omega
   have g2n : (r.code.length == 0) = false := by rw [beq_eq_false_iff_ne]; omega
   have g2e : ¬ r.code = [] := fun e => q2 (by rw [e]; rfl)
   have hn1 : 1 ≤ r.code.length := by omega
   by_cases q3 : 4096 < r.code.length
   ·have g3 : decide (4096 < (r.code.length : Int)) = true := by simp; omega
    go_wp2
    go_ret
    exact ChkPost.no (fun hC => by have := hC.n2; omega) HB.out
   have g3 : decide (4096 < (r.code.length : Int)) = false := by simp; omega
   have hn2 : r.code.length ≤ 4096 := by omega
   by_cases q4 : r.places < 0
   ·have g4 : decide (r.places < 0) = true := by simpa using q4
    go_wp2
    go_ret
    exact ChkPost.no (fun hC => by have := hC.p1; omega) HB.out
   have g4 : decide (r.places < 0) = false := by simpa using q4
   by_cases q5 : 4096 < r.places
   ·have g5 : decide (4096 < r.places) = true := by simpa using q5
    go_wp2
    go_ret
    exact ChkPost.no (fun hC => by have := hC.p2; omega) HB.out
   have g5 : decide (4096 < r.places) = false := by simpa using q5
   by_cases q6 : r.params.length = r.sig.inn.length
   ·have g6 : ((r.params.length : Int) != (r.sig.inn.length : Int)) = false := by simp; omega
    have g6n : (r.params.length != r.sig.inn.length) = false := by simp; omega
    have Q6 := Lib.hid q6
    clear q6
    go_wp2_with fail
    refine (within_any r.places _ r.params _ (H6.out.ir.below HB.out (Nat.le_refl _)) (by omega)).mono ?_
    rintro en w3 ⟨rfl, hb3⟩
    have HB := Lib.hid (HB.out.trans (hb3.mono HB.out.size))
    have KE := Lib.hid (KE.out.below hb3 KE.out.lt)
    have KR := Lib.hid (KR.out.below hb3 KR.out.lt)
    clear hb3
    clear r0 r1 r2 r3 r4 d0 d1 d2 d3 d4 y0 y1
    obtain ⟨r0, r1, r2, r3, r4⟩ := blk5 KR.out
    obtain ⟨d0, d1, d2, d3, d4⟩ := blk5 KE.out
    have y0 := KE.out.lt
    have y1 := KR.out.lt
    cases q7 : within r.places r.params with
    | false =>
     have Q := Lib.hid q7
     clear q7
     go_wp2
     go_ret
     exact ChkPost.no (fun hC => by have := hC.pin; rw [Q.out] at this; cases this) HB.out
    | true =>
     have Q7 := Lib.hid q7
     clear q7
     go_wp2_with fail
     refine (unlike_any _ r.params _ (H6.out.ir.below HB.out (Nat.le_refl _)) (by omega) (fun A n c h => by injection h with e1 e2 e3; omega)).mono ?_
     rintro en w4 ⟨rfl, rfl⟩
     by_cases q8 : r.params.Nodup
     ·rw [decide_eq_true q8]
      have Q8 := Lib.hid q8
      clear q8
      go_wp2_with fail
      refine (cf_check1_any Ac r.code.length cc r.code (fun c => !codeOk e r c) w.heap.size (w.heap.size + 1) _ (H7.out.below HB.out (Nat.le_refl _) (fun _ _ h => h.below HB.out (Nat.le_refl _))) (by omega) (fun c hc v w' hb hv => check1_any e r c _ _ v v v _ _ w' (HE.out.below (HB.out.trans (hb.mono HB.out.size)) (Nat.le_refl _)) (HR.out.below (HB.out.trans (hb.mono HB.out.size)) (Nat.le_refl _)) hv (env_muts Q0.out) (KE.out.below hb KE.out.lt) (KR.out.below hb KR.out.lt))).mono ?_
      rintro en w5 ⟨rfl, hb5⟩
      have HB := Lib.hid (HB.out.trans (hb5.mono HB.out.size))
      have KE := Lib.hid (KE.out.below hb5 KE.out.lt)
      have KR := Lib.hid (KR.out.below hb5 KR.out.lt)
      clear hb5
      clear r0 r1 r2 r3 r4 d0 d1 d2 d3 d4 y0 y1
      obtain ⟨r0, r1, r2, r3, r4⟩ := blk5 KR.out
      obtain ⟨d0, d1, d2, d3, d4⟩ := blk5 KE.out
      have y0 := KE.out.lt
      have y1 := KR.out.lt
      cases q9 : r.code.any (fun c => !codeOk e r c) with
      | true =>
       have Q := Lib.hid q9
       clear q9
       go_wp2
       go_ret
       exact ChkPost.no (fun hC => by obtain ⟨c, h1, h2⟩ := List.any_eq_true.1 Q.out; rw [hC.code c h1] at h2; cases h2) HB.out
      | false =>
       have Q9 := Lib.hid (show ∀ c ∈ r.code, codeOk e r c = true from fun c hc => by have := List.any_eq_false.1 q9 c hc; simpa using this)
       clear q9
       have hn12 : (0 : Int) < (r.code.length : Int) := by omega
       have hn13 : 0 < r.code.length := by omega
       obtain ⟨c0, hc0⟩ : ∃ c0, r.code[0]? = some c0 := ⟨_, List.getElem?_eq_getElem (by omega)⟩
       obtain ⟨c1, hc1⟩ : ∃ c1, r.code[r.code.length - 1]? = some c1 := ⟨_, List.getElem?_eq_getElem (by omega)⟩
       have H7' := H7.out.below HB.out (Nat.le_refl _) (fun _ _ h => h.below HB.out (Nat.le_refl _))
       obtain ⟨gb, go, p, q, t, eA, hgb, m0, _⟩ := H7'.code hc0
       obtain ⟨gb', go', p', q', t', eA', hgb', m1, _⟩ := H7'.code hc1
       subst eA
       injection eA' with eA'
       injection eA' with e1 e2
       subst e1
       subst e2
       obtain ⟨k, hk⟩ : ∃ k, r.code.length = k + 1 := ⟨r.code.length - 1, by omega⟩
       rw [hk] at m1
       simp only [Nat.add_sub_cancel, Nat.zero_mul, Nat.add_zero] at m0 m1
       have hkl : (k : Int) < (r.code.length : Int) := by omega
       have hkl2 : k < r.code.length := by omega
       have hks : (r.code.length : Int) - 1 = (k : Int) := by omega
       have hkt : ((r.code.length : Int) - 1).toNat = k := by omega
       have C0 := Lib.hid hc0
       have C1 := Lib.hid hc1
       have HK := Lib.hid hk
       clear hc0 hc1 H7' hk
       by_cases q10 : c0.op = 258
       ·have g10 : (c0.op == 258) = true := by simpa using q10
        have Q10 := Lib.hid q10
        clear q10
        have HBb := Lib.hid (HB.out.alloc HB.out.size (.cells #[.int .i64 273, .int .i64 275, .int .i64 276, .int .i64 277] 3))
        have KEb := Lib.hid (KE.out.alloc (.cells #[.int .i64 273, .int .i64 275, .int .i64 276, .int .i64 277] 3))
        have KRb := Lib.hid (KR.out.alloc (.cells #[.int .i64 273, .int .i64 275, .int .i64 276, .int .i64 277] 3))
        go_wp2_with fail
        refine (Contains_any _ [273, 275, 276, 277] c1.op _ ⟨_, _, rfl, Blk.srcAll (cs := #[.int .i64 273, .int .i64 275, .int .i64 276, .int .i64 277]) (Blk.new _ _ _) rfl⟩ (by simp)).mono ?_
        rintro en w6 ⟨rfl, rfl⟩
        cases q11 : endOp c1.op with
        | false =>
         have Q11 := Lib.hid q11
         rw [show decide (c1.op ∈ [(273 : Int), 275, 276, 277]) = false from q11]
         clear q11
         go_wp2
         go_ret
         exact ChkPost.no (fun hC => by have := hC.last c1 C1.out; rw [← endOp_iff, Q11.out] at this; cases this) HBb.out
        | true =>
         have Q11 := Lib.hid q11
         rw [show decide (c1.op ∈ [(273 : Int), 275, 276, 277]) = true from q11]
         clear q11
         have hnn := Lib.hid (show 1 ≤ r.code.length ∧ r.code.length ≤ 4096 from ⟨hn1, hn2⟩)
         go_wp2_with fail
         refine (rings_any r _ _ (HR.out.below HBb.out (Nat.le_refl _)) (flow_of hnn.out.1 hnn.out.2 Q9.out (fun c hc => by rw [C1.out] at hc; injection hc with hc; rw [← hc]; exact Q11.out))).mono ?_
         rintro en w7 ⟨b, rfl, hbr, hb7⟩
         have HB7 := Lib.hid (HBb.out.trans (hb7.mono HBb.out.size))
         have HBR := Lib.hid hbr
         clear hb7 hbr
         go_wp2
         go_ret
         refine ⟨!b, rfl, ⟨fun hb => ?_, fun hC => ?_⟩, HB7.out⟩
         ·have hnb : ¬ b = true := by simpa using hb
          have hrk : Ranked r := Classical.byContradiction fun h => hnb (HBR.out.2 h)
          exact ⟨Q0.out, Q1.out, hnn.out.1, hnn.out.2, by omega, by omega, Q6.out, Q7.out, Q8.out, Q9.out, (fun c hc => by rw [C0.out] at hc; injection hc with hc; rw [← hc]; exact Q10.out), (fun c hc => by rw [C1.out] at hc; injection hc with hc; rw [← hc]; exact (endOp_iff _).1 Q11.out), hrk⟩
         ·cases b with
          | false => rfl
          | true => exact absurd hC.rank (HBR.out.1 rfl)
       ·have g10 : (c0.op == 258) = false := by simpa using q10
        have Q10 := Lib.hid q10
        clear q10
        go_wp2
        go_ret
        exact ChkPost.no (fun hC => Q10.out (hC.first c0 C0.out)) (HB.out.alloc HB.out.size _)
     ·rw [decide_eq_false q8]
      have Q8 := Lib.hid q8
      clear q8
      go_wp2
      go_ret
      exact ChkPost.no (fun hC => Q8.out hC.pun) HB.out
   ·have g6 : ((r.params.length : Int) != (r.sig.inn.length : Int)) = true := by simp; omega
    have g6n : (r.params.length != r.sig.inn.length) = true := by simp; omega
    have Q6 := Lib.hid q6
    clear q6
    go_wp2
    go_ret
    exact ChkPost.no (fun hC => Q6.out hC.par) HB.out
end Go.Proofs.YtgmapikcpnffhaaGreat
