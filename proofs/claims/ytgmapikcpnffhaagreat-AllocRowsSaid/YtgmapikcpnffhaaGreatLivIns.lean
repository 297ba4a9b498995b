/-
 Whether an instruction may be, as the program tells it.
 Conditions: the environment's truth values are as many as its globals.
-/
import Derived.Test.YtgmapikcpnffhaaGreatLivIns0
namespace Go.Proofs.YtgmapikcpnffhaaGreat
open Go.RowKit Go.Bk Go.Bk.Liv
set_option linter.unusedVariables false
set_option linter.unusedSimpArgs false

theorem al3 (w : World) (a b c : Obj) : Below w.heap.size w (((w.alloc a).alloc b).alloc c) := (((Below.refl _ _).alloc (Nat.le_refl _) _).alloc (by simp) _).alloc (by simp; omega) _

/-- what instruction reckons, part by part -/
def insB (e : EnvD) (r : RowD) (c : CodeD) (ok : Bool) (most : Nat) (i o : List Int) (a b : Int) : Bool :=
 ok && (decide (c.n ≤ most) && (decide (c.args.length = i.length) && (decide (c.outs.length = o.length) && (decide (a ≤ (c.to.length : Int)) && (decide ((c.to.length : Int) ≤ b) &&
  (within r.places c.args && (within r.places c.outs && (decide c.outs.Nodup && within r.code.length c.to))))))))
theorem ins_eq {e : EnvD} {r : RowD} {c : CodeD} {ok : Bool} {most : Nat} {i o : List Int} {a b : Int}
  (hP : formV e r.sig c.op c.n = none → ok = false ∨ most < c.n) (hQ : ∀ x, formV e r.sig c.op c.n = some x → ok = true ∧ c.n ≤ most ∧ x = (i, o) ∧ a = toLo c.op ∧ b = toHi c.op) :
  codeOk e r c = insB e r c ok most i o a b := by
 cases hf : formV e r.sig c.op c.n with
 | none =>
  simp only [codeOk, hf, insB]
  rcases hP hf with h | h
  ·rw [h]; rfl
  ·rw [decide_eq_false (by omega)]; cases ok <;> rfl
 | some x =>
  obtain ⟨h1, h2, h3, h4, h5⟩ := hQ x hf
  subst h3
  subst h4
  subst h5
  simp only [codeOk, hf, insB, h1, decide_eq_true h2, Bool.true_and]
  by_cases q1 : c.args.length = i.length
  ·by_cases q2 : c.outs.length = o.length
   ·by_cases q3 : toLo c.op ≤ (c.to.length : Int)
    ·by_cases q4 : (c.to.length : Int) ≤ toHi c.op
     ·simp only [decide_eq_true q1, decide_eq_true q2, decide_eq_true q3, decide_eq_true q4, decide_eq_true (show _ ∧ _ ∧ _ ∧ _ from ⟨q1, q2, q3, q4⟩), Bool.true_and]
     ·rw [decide_eq_false (fun h => q4 h.2.2.2), decide_eq_false q4]; simp
    ·rw [decide_eq_false (fun h => q3 h.2.2.1), decide_eq_false q3]; simp
   ·rw [decide_eq_false (fun h => q2 h.2.1), decide_eq_false q2]; simp
  ·rw [decide_eq_false (fun h => q1 h.1), decide_eq_false q1]; simp

set_option maxRecDepth 100000 in
set_option maxHeartbeats 8000000 in
theorem instruction_any (e : EnvD) (r : RowD) (c : CodeD) (ve vr vc : Value) (w : World) (he : EnvV w ve e) (hr : RowV w vr r) (hc : CodeV w vc c) (hmg : e.muts.length = e.globals.length) :
  Calls Tryz.prog 65 #[ve, vr, vc] w fun en w' => en = .returned (.bool (codeOk e r c)) ∧ Below w.heap.size w w' := by
 have he0 := he
 obtain ⟨va, vb, vd, rfl, h1, h2, h3⟩ := he
 obtain ⟨As, cs, rfl, _⟩ := h1.len
 obtain ⟨Ag, cg, rfl⟩ := h2.shape
 obtain ⟨Am, cm, rfl, _⟩ := h3
 obtain ⟨vp, vq, vr, vs, rfl, h4, h5, h6, h7⟩ := hr
 obtain ⟨Ap, cp, rfl⟩ := h4.shape
 obtain ⟨Aq, cq, rfl⟩ := h5.shape
 obtain ⟨Ar, cr, rfl⟩ := h6.shape
 obtain ⟨Ac, cc, rfl, _⟩ := h7.len
 obtain ⟨v2, v3, v4, rfl, hok, h8, h9, h10⟩ := hc
 obtain ⟨A2, c2, rfl⟩ := h8.shape
 obtain ⟨A3, c3, rfl⟩ := h9.shape
 obtain ⟨A4, c4, rfl⟩ := h10.shape
 have l7 := h7.lenV
 have l8 := h8.lenV
 have l9 := h9.lenV
 have l10 := h10.lenV
 have B3 := Lib.hid (al3 w (.cells #[.slice As e.sigs.length cs, .int .i64 e.imports, .slice Ag e.globals.length cg, .slice Am e.muts.length cm, .bool e.mem] 26) (.cells #[.slice Ap r.sig.inn.length cp, .slice Aq r.sig.out.length cq, .int .i64 r.places, .slice Ar r.params.length cr, .slice Ac r.code.length cc] 31) (.cells #[.int .i64 c.op, .int .u64 (c.n : Int), .slice A2 c.args.length c2, .slice A3 c.outs.length c3, .slice A4 c.to.length c4] 48))
 have E1 := Lib.hid ((Blk.newAt (w.alloc (.cells #[.slice As e.sigs.length cs, .int .i64 e.imports, .slice Ag e.globals.length cg, .slice Am e.muts.length cm, .bool e.mem] 26)) (N := w.heap.size + 1) 31 #[.slice Ap r.sig.inn.length cp, .slice Aq r.sig.out.length cq, .int .i64 r.places, .slice Ar r.params.length cr, .slice Ac r.code.length cc] (by simp)).alloc (.cells #[.int .i64 c.op, .int .u64 (c.n : Int), .slice A2 c.args.length c2, .slice A3 c.outs.length c3, .slice A4 c.to.length c4] 48))
 have E2 := Lib.hid (at3 w (.cells #[.slice As e.sigs.length cs, .int .i64 e.imports, .slice Ag e.globals.length cg, .slice Am e.muts.length cm, .bool e.mem] 26) (.cells #[.slice Ap r.sig.inn.length cp, .slice Aq r.sig.out.length cq, .int .i64 r.places, .slice Ar r.params.length cr, .slice Ac r.code.length cc] 31) 48 #[.int .i64 c.op, .int .u64 (c.n : Int), .slice A2 c.args.length c2, .slice A3 c.outs.length c3, .slice A4 c.to.length c4])
 have HA := Lib.hid (h8.ir.below B3.out (Nat.le_refl _))
 have HU := Lib.hid (h9.ir.below B3.out (Nat.le_refl _))
 have HT := Lib.hid (h10.ir.below B3.out (Nat.le_refl _))
 have HEN := Lib.hid (he0.below B3.out (Nat.le_refl _))
 have HSG := Lib.hid (show SigV _ _ r.sig from ⟨_, _, rfl, h4.below B3.out (Nat.le_refl _), h5.below B3.out (Nat.le_refl _)⟩)
 have HOK := Lib.hid hok
 have HMG := Lib.hid hmg
 clear h1 h2 h4 h5 h6 h7 h8 h9 h10 he0 hok hmg
 go_enter Tryz.func65, Tryz.ntmps65
 go_wp2_with fail
 simp only [List.append_eq, List.cons_append, List.nil_append] at *
 refine (shapeOf_any c.op HOK.out.2.1 HOK.out.2.2 e r.sig _ _ c.n HOK.out.1 _ HEN.out HSG.out HMG.out).mono ?_
 rintro en w1 ⟨vi, vo, most, a, b, ok, i, o, rfl, hvi, hvo, hmost, hP, hQ, _, hb1⟩
 obtain ⟨Ai, ci, rfl⟩ := hvi.shape
 obtain ⟨Ao, co, rfl⟩ := hvo.shape
 have HE := Lib.hid (ins_eq hP hQ)
 have B4 := Lib.hid (B3.out.trans (hb1.mono B3.out.size))
 have hb2 := hb1.alloc hb1.size (.cells #[.slice Ai i.length ci, .slice Ao o.length co, .int .u64 (most : Int), .int .i64 a, .int .i64 b] 148)
 have KR1 := Lib.hid (E1.out.below hb1 E1.out.lt)
 have KC1 := Lib.hid (E2.out.below hb1 E2.out.lt)
 have KR := Lib.hid (E1.out.below hb2 E1.out.lt)
 have KC := Lib.hid (E2.out.below hb2 E2.out.lt)
 have HA := Lib.hid (HA.out.below hb2 (Nat.le_refl _))
 have HU := Lib.hid (HU.out.below hb2 (Nat.le_refl _))
 have HT := Lib.hid (HT.out.below hb2 (Nat.le_refl _))
 have KS := Lib.hid (Blk.new w1 148 #[.slice Ai i.length ci, .slice Ao o.length co, .int .u64 (most : Int), .int .i64 a, .int .i64 b])
 have HB := Lib.hid (B4.out.alloc B4.out.size (.cells #[.slice Ai i.length ci, .slice Ao o.length co, .int .u64 (most : Int), .int .i64 a, .int .i64 b] 148))
 clear hb1 hb2 hP hQ hvi hvo hmost
 have k1 := KR1.out.lt
 have k2 := KC1.out.lt
 obtain ⟨r0, r1, r2, r3, r4⟩ := blk5 KR1.out
 obtain ⟨d0, d1, d2, d3, d4⟩ := blk5 KC1.out
 have s0 := k1
 have s1 := k1
 have s2 := k1
 have s3 := k1
 have s4 := k1
 cases ok with
 | false =>
  have HV := Lib.hid (show codeOk e r c = false by rw [HE.out]; simp only [insB, Bool.true_and, Bool.false_and, Bool.and_true])
  go_wp2
  go_ret
  exact ⟨by rw [HV.out]; rfl, HB.out⟩
 | true =>
  by_cases qn : c.n ≤ most
  ·by_cases qa : c.args.length = i.length
   ·by_cases qu : c.outs.length = o.length
    ·by_cases qf : a ≤ (c.to.length : Int)
     ·by_cases qt : (c.to.length : Int) ≤ b
      ·cases qw1 : within r.places c.args with
       | true =>
        cases qw2 : within r.places c.outs with
        | true =>
         by_cases qun : c.outs.Nodup
         ·cases qw3 : within r.code.length c.to with
          | true =>
           have g1 : decide ((c.n : Int) ≤ (most : Int)) = true := by simp; omega
           have g1n : c.n ≤ most := by omega
           have g2 : ((c.args.length : Int) == (i.length : Int)) = true := by simp; omega
           have g2n : (c.args.length == i.length) = true := by simp; omega
           have g3 : ((c.outs.length : Int) == (o.length : Int)) = true := by simp; omega
           have g3n : (c.outs.length == o.length) = true := by simp; omega
           have g4 : decide (a ≤ (c.to.length : Int)) = true := by simpa using qf
           have g5 : decide ((c.to.length : Int) ≤ b) = true := by simpa using qt
           have HV := Lib.hid (show codeOk e r c = true by rw [HE.out]; simp only [insB, decide_eq_true qn, decide_eq_true qa, decide_eq_true qu, decide_eq_true qf, decide_eq_true qt, qw1, qw2, decide_eq_true qun, qw3, Bool.true_and, Bool.false_and, Bool.and_true])
           have Ww1 := Lib.hid (show within r.places c.args = true from qw1)
           have Ww2 := Lib.hid (show within r.places c.outs = true from qw2)
           have Wun := Lib.hid (show decide c.outs.Nodup = true from decide_eq_true qun)
           have Ww3 := Lib.hid (show within r.code.length c.to = true from qw3)
           clear qn qa qu qw1 qw2 qun qw3
           go_wp2_with fail
           refine (within_any r.places _ c.args _ HA.out (by omega)).mono ?_
           rintro en w3 ⟨rfl, hb3⟩
           rw [Ww1.out]
           have HB := Lib.hid (HB.out.trans (hb3.mono HB.out.size))
           have KR := Lib.hid (KR.out.below hb3 KR.out.lt)
           have KC := Lib.hid (KC.out.below hb3 KC.out.lt)
           have KS := Lib.hid (KS.out.below hb3 KS.out.lt)
           have HA := Lib.hid (HA.out.below hb3 (Nat.le_refl _))
           have HU := Lib.hid (HU.out.below hb3 (Nat.le_refl _))
           have HT := Lib.hid (HT.out.below hb3 (Nat.le_refl _))
           clear hb3
           clear r0 r1 r2 r3 r4 d0 d1 d2 d3 d4 s0 s1 s2 s3 s4
           obtain ⟨r0, r1, r2, r3, r4⟩ := blk5 KR.out
           obtain ⟨d0, d1, d2, d3, d4⟩ := blk5 KC.out
           obtain ⟨s0, s1, s2, s3, s4⟩ := blk5 KS.out
           go_wp2_with fail
           refine (within_any r.places _ c.outs _ HU.out (by omega)).mono ?_
           rintro en w3 ⟨rfl, hb3⟩
           rw [Ww2.out]
           have HB := Lib.hid (HB.out.trans (hb3.mono HB.out.size))
           have KR := Lib.hid (KR.out.below hb3 KR.out.lt)
           have KC := Lib.hid (KC.out.below hb3 KC.out.lt)
           have KS := Lib.hid (KS.out.below hb3 KS.out.lt)
           have HA := Lib.hid (HA.out.below hb3 (Nat.le_refl _))
           have HU := Lib.hid (HU.out.below hb3 (Nat.le_refl _))
           have HT := Lib.hid (HT.out.below hb3 (Nat.le_refl _))
           clear hb3
           clear r0 r1 r2 r3 r4 d0 d1 d2 d3 d4 s0 s1 s2 s3 s4
           obtain ⟨r0, r1, r2, r3, r4⟩ := blk5 KR.out
           obtain ⟨d0, d1, d2, d3, d4⟩ := blk5 KC.out
           obtain ⟨s0, s1, s2, s3, s4⟩ := blk5 KS.out
           go_wp2_with fail
           refine (unlike_any _ c.outs _ HU.out (by omega) (fun A n c h => by injection h with e1 e2 e3; omega)).mono ?_
           rintro en w3 ⟨rfl, rfl⟩
           rw [Wun.out]
           go_wp2_with fail
           refine (within_any r.code.length _ c.to _ HT.out (by omega)).mono ?_
           rintro en w3 ⟨rfl, hb3⟩
           rw [Ww3.out]
           have HB := Lib.hid (HB.out.trans (hb3.mono HB.out.size))
           have KR := Lib.hid (KR.out.below hb3 KR.out.lt)
           have KC := Lib.hid (KC.out.below hb3 KC.out.lt)
           have KS := Lib.hid (KS.out.below hb3 KS.out.lt)
           have HA := Lib.hid (HA.out.below hb3 (Nat.le_refl _))
           have HU := Lib.hid (HU.out.below hb3 (Nat.le_refl _))
           have HT := Lib.hid (HT.out.below hb3 (Nat.le_refl _))
           clear hb3
           clear r0 r1 r2 r3 r4 d0 d1 d2 d3 d4 s0 s1 s2 s3 s4
           obtain ⟨r0, r1, r2, r3, r4⟩ := blk5 KR.out
           obtain ⟨d0, d1, d2, d3, d4⟩ := blk5 KC.out
           obtain ⟨s0, s1, s2, s3, s4⟩ := blk5 KS.out
           go_wp2
           go_ret
           exact ⟨by rw [HV.out]; rfl, HB.out⟩
          | false =>
           have g1 : decide ((c.n : Int) ≤ (most : Int)) = true := by simp; omega
           have g1n : c.n ≤ most := by omega
           have g2 : ((c.args.length : Int) == (i.length : Int)) = true := by simp; omega
           have g2n : (c.args.length == i.length) = true := by simp; omega
           have g3 : ((c.outs.length : Int) == (o.length : Int)) = true := by simp; omega
           have g3n : (c.outs.length == o.length) = true := by simp; omega
           have g4 : decide (a ≤ (c.to.length : Int)) = true := by simpa using qf
           have g5 : decide ((c.to.length : Int) ≤ b) = true := by simpa using qt
           have HV := Lib.hid (show codeOk e r c = false by rw [HE.out]; simp only [insB, decide_eq_true qn, decide_eq_true qa, decide_eq_true qu, decide_eq_true qf, decide_eq_true qt, qw1, qw2, decide_eq_true qun, qw3, Bool.true_and, Bool.false_and, Bool.and_true])
           have Ww1 := Lib.hid (show within r.places c.args = true from qw1)
           have Ww2 := Lib.hid (show within r.places c.outs = true from qw2)
           have Wun := Lib.hid (show decide c.outs.Nodup = true from decide_eq_true qun)
           have Ww3 := Lib.hid (show within r.code.length c.to = false from qw3)
           clear qn qa qu qw1 qw2 qun qw3
           go_wp2_with fail
           refine (within_any r.places _ c.args _ HA.out (by omega)).mono ?_
           rintro en w3 ⟨rfl, hb3⟩
           rw [Ww1.out]
           have HB := Lib.hid (HB.out.trans (hb3.mono HB.out.size))
           have KR := Lib.hid (KR.out.below hb3 KR.out.lt)
           have KC := Lib.hid (KC.out.below hb3 KC.out.lt)
           have KS := Lib.hid (KS.out.below hb3 KS.out.lt)
           have HA := Lib.hid (HA.out.below hb3 (Nat.le_refl _))
           have HU := Lib.hid (HU.out.below hb3 (Nat.le_refl _))
           have HT := Lib.hid (HT.out.below hb3 (Nat.le_refl _))
           clear hb3
           clear r0 r1 r2 r3 r4 d0 d1 d2 d3 d4 s0 s1 s2 s3 s4
           obtain ⟨r0, r1, r2, r3, r4⟩ := blk5 KR.out
           obtain ⟨d0, d1, d2, d3, d4⟩ := blk5 KC.out
           obtain ⟨s0, s1, s2, s3, s4⟩ := blk5 KS.out
           go_wp2_with fail
           refine (within_any r.places _ c.outs _ HU.out (by omega)).mono ?_
           rintro en w3 ⟨rfl, hb3⟩
           rw [Ww2.out]
           have HB := Lib.hid (HB.out.trans (hb3.mono HB.out.size))
           have KR := Lib.hid (KR.out.below hb3 KR.out.lt)
           have KC := Lib.hid (KC.out.below hb3 KC.out.lt)
           have KS := Lib.hid (KS.out.below hb3 KS.out.lt)
           have HA := Lib.hid (HA.out.below hb3 (Nat.le_refl _))
           have HU := Lib.hid (HU.out.below hb3 (Nat.le_refl _))
           have HT := Lib.hid (HT.out.below hb3 (Nat.le_refl _))
           clear hb3
           clear r0 r1 r2 r3 r4 d0 d1 d2 d3 d4 s0 s1 s2 s3 s4
           obtain ⟨r0, r1, r2, r3, r4⟩ := blk5 KR.out
           obtain ⟨d0, d1, d2, d3, d4⟩ := blk5 KC.out
           obtain ⟨s0, s1, s2, s3, s4⟩ := blk5 KS.out
           go_wp2_with fail
           refine (unlike_any _ c.outs _ HU.out (by omega) (fun A n c h => by injection h with e1 e2 e3; omega)).mono ?_
           rintro en w3 ⟨rfl, rfl⟩
           rw [Wun.out]
           go_wp2_with fail
           refine (within_any r.code.length _ c.to _ HT.out (by omega)).mono ?_
           rintro en w3 ⟨rfl, hb3⟩
           rw [Ww3.out]
           have HB := Lib.hid (HB.out.trans (hb3.mono HB.out.size))
           have KR := Lib.hid (KR.out.below hb3 KR.out.lt)
           have KC := Lib.hid (KC.out.below hb3 KC.out.lt)
           have KS := Lib.hid (KS.out.below hb3 KS.out.lt)
           have HA := Lib.hid (HA.out.below hb3 (Nat.le_refl _))
           have HU := Lib.hid (HU.out.below hb3 (Nat.le_refl _))
           have HT := Lib.hid (HT.out.below hb3 (Nat.le_refl _))
           clear hb3
           clear r0 r1 r2 r3 r4 d0 d1 d2 d3 d4 s0 s1 s2 s3 s4
           obtain ⟨r0, r1, r2, r3, r4⟩ := blk5 KR.out
           obtain ⟨d0, d1, d2, d3, d4⟩ := blk5 KC.out
           obtain ⟨s0, s1, s2, s3, s4⟩ := blk5 KS.out
           go_wp2
           go_ret
           exact ⟨by rw [HV.out]; rfl, HB.out⟩
         ·have g1 : decide ((c.n : Int) ≤ (most : Int)) = true := by simp; omega
          have g1n : c.n ≤ most := by omega
          have g2 : ((c.args.length : Int) == (i.length : Int)) = true := by simp; omega
          have g2n : (c.args.length == i.length) = true := by simp; omega
          have g3 : ((c.outs.length : Int) == (o.length : Int)) = true := by simp; omega
          have g3n : (c.outs.length == o.length) = true := by simp; omega
          have g4 : decide (a ≤ (c.to.length : Int)) = true := by simpa using qf
          have g5 : decide ((c.to.length : Int) ≤ b) = true := by simpa using qt
          have HV := Lib.hid (show codeOk e r c = false by rw [HE.out]; simp only [insB, decide_eq_true qn, decide_eq_true qa, decide_eq_true qu, decide_eq_true qf, decide_eq_true qt, qw1, qw2, decide_eq_false qun, Bool.true_and, Bool.false_and, Bool.and_true])
          have Ww1 := Lib.hid (show within r.places c.args = true from qw1)
          have Ww2 := Lib.hid (show within r.places c.outs = true from qw2)
          have Wun := Lib.hid (show decide c.outs.Nodup = false from decide_eq_false qun)
          clear qn qa qu qw1 qw2 qun
          go_wp2_with fail
          refine (within_any r.places _ c.args _ HA.out (by omega)).mono ?_
          rintro en w3 ⟨rfl, hb3⟩
          rw [Ww1.out]
          have HB := Lib.hid (HB.out.trans (hb3.mono HB.out.size))
          have KR := Lib.hid (KR.out.below hb3 KR.out.lt)
          have KC := Lib.hid (KC.out.below hb3 KC.out.lt)
          have KS := Lib.hid (KS.out.below hb3 KS.out.lt)
          have HA := Lib.hid (HA.out.below hb3 (Nat.le_refl _))
          have HU := Lib.hid (HU.out.below hb3 (Nat.le_refl _))
          have HT := Lib.hid (HT.out.below hb3 (Nat.le_refl _))
          clear hb3
          clear r0 r1 r2 r3 r4 d0 d1 d2 d3 d4 s0 s1 s2 s3 s4
          obtain ⟨r0, r1, r2, r3, r4⟩ := blk5 KR.out
          obtain ⟨d0, d1, d2, d3, d4⟩ := blk5 KC.out
          obtain ⟨s0, s1, s2, s3, s4⟩ := blk5 KS.out
          go_wp2_with fail
          refine (within_any r.places _ c.outs _ HU.out (by omega)).mono ?_
          rintro en w3 ⟨rfl, hb3⟩
          rw [Ww2.out]
          have HB := Lib.hid (HB.out.trans (hb3.mono HB.out.size))
          have KR := Lib.hid (KR.out.below hb3 KR.out.lt)
          have KC := Lib.hid (KC.out.below hb3 KC.out.lt)
          have KS := Lib.hid (KS.out.below hb3 KS.out.lt)
          have HA := Lib.hid (HA.out.below hb3 (Nat.le_refl _))
          have HU := Lib.hid (HU.out.below hb3 (Nat.le_refl _))
          have HT := Lib.hid (HT.out.below hb3 (Nat.le_refl _))
          clear hb3
          clear r0 r1 r2 r3 r4 d0 d1 d2 d3 d4 s0 s1 s2 s3 s4
          obtain ⟨r0, r1, r2, r3, r4⟩ := blk5 KR.out
          obtain ⟨d0, d1, d2, d3, d4⟩ := blk5 KC.out
          obtain ⟨s0, s1, s2, s3, s4⟩ := blk5 KS.out
          go_wp2_with fail
          refine (unlike_any _ c.outs _ HU.out (by omega) (fun A n c h => by injection h with e1 e2 e3; omega)).mono ?_
          rintro en w3 ⟨rfl, rfl⟩
          rw [Wun.out]
          go_wp2
          go_ret
          exact ⟨by rw [HV.out]; rfl, HB.out⟩
        | false =>
         have g1 : decide ((c.n : Int) ≤ (most : Int)) = true := by simp; omega
         have g1n : c.n ≤ most := by omega
         have g2 : ((c.args.length : Int) == (i.length : Int)) = true := by simp; omega
         have g2n : (c.args.length == i.length) = true := by simp; omega
         have g3 : ((c.outs.length : Int) == (o.length : Int)) = true := by simp; omega
         have g3n : (c.outs.length == o.length) = true := by simp; omega
         have g4 : decide (a ≤ (c.to.length : Int)) = true := by simpa using qf
         have g5 : decide ((c.to.length : Int) ≤ b) = true := by simpa using qt
         have HV := Lib.hid (show codeOk e r c = false by rw [HE.out]; simp only [insB, decide_eq_true qn, decide_eq_true qa, decide_eq_true qu, decide_eq_true qf, decide_eq_true qt, qw1, qw2, Bool.true_and, Bool.false_and, Bool.and_true])
         have Ww1 := Lib.hid (show within r.places c.args = true from qw1)
         have Ww2 := Lib.hid (show within r.places c.outs = false from qw2)
         clear qn qa qu qw1 qw2
         go_wp2_with fail
         refine (within_any r.places _ c.args _ HA.out (by omega)).mono ?_
         rintro en w3 ⟨rfl, hb3⟩
         rw [Ww1.out]
         have HB := Lib.hid (HB.out.trans (hb3.mono HB.out.size))
         have KR := Lib.hid (KR.out.below hb3 KR.out.lt)
         have KC := Lib.hid (KC.out.below hb3 KC.out.lt)
         have KS := Lib.hid (KS.out.below hb3 KS.out.lt)
         have HA := Lib.hid (HA.out.below hb3 (Nat.le_refl _))
         have HU := Lib.hid (HU.out.below hb3 (Nat.le_refl _))
         have HT := Lib.hid (HT.out.below hb3 (Nat.le_refl _))
         clear hb3
         clear r0 r1 r2 r3 r4 d0 d1 d2 d3 d4 s0 s1 s2 s3 s4
         obtain ⟨r0, r1, r2, r3, r4⟩ := blk5 KR.out
         obtain ⟨d0, d1, d2, d3, d4⟩ := blk5 KC.out
         obtain ⟨s0, s1, s2, s3, s4⟩ := blk5 KS.out
         go_wp2_with fail
         refine (within_any r.places _ c.outs _ HU.out (by omega)).mono ?_
         rintro en w3 ⟨rfl, hb3⟩
         rw [Ww2.out]
         have HB := Lib.hid (HB.out.trans (hb3.mono HB.out.size))
         have KR := Lib.hid (KR.out.below hb3 KR.out.lt)
         have KC := Lib.hid (KC.out.below hb3 KC.out.lt)
         have KS := Lib.hid (KS.out.below hb3 KS.out.lt)
         have HA := Lib.hid (HA.out.below hb3 (Nat.le_refl _))
         have HU := Lib.hid (HU.out.below hb3 (Nat.le_refl _))
         have HT := Lib.hid (HT.out.below hb3 (Nat.le_refl _))
         clear hb3
         clear r0 r1 r2 r3 r4 d0 d1 d2 d3 d4 s0 s1 s2 s3 s4
         obtain ⟨r0, r1, r2, r3, r4⟩ := blk5 KR.out
         obtain ⟨d0, d1, d2, d3, d4⟩ := blk5 KC.out
         obtain ⟨s0, s1, s2, s3, s4⟩ := blk5 KS.out
         go_wp2
         go_ret
         exact ⟨by rw [HV.out]; rfl, HB.out⟩
       | false =>
        have g1 : decide ((c.n : Int) ≤ (most : Int)) = true := by simp; omega
        have g1n : c.n ≤ most := by omega
        have g2 : ((c.args.length : Int) == (i.length : Int)) = true := by simp; omega
        have g2n : (c.args.length == i.length) = true := by simp; omega
        have g3 : ((c.outs.length : Int) == (o.length : Int)) = true := by simp; omega
        have g3n : (c.outs.length == o.length) = true := by simp; omega
        have g4 : decide (a ≤ (c.to.length : Int)) = true := by simpa using qf
        have g5 : decide ((c.to.length : Int) ≤ b) = true := by simpa using qt
        have HV := Lib.hid (show codeOk e r c = false by rw [HE.out]; simp only [insB, decide_eq_true qn, decide_eq_true qa, decide_eq_true qu, decide_eq_true qf, decide_eq_true qt, qw1, Bool.true_and, Bool.false_and, Bool.and_true])
        have Ww1 := Lib.hid (show within r.places c.args = false from qw1)
        clear qn qa qu qw1
        go_wp2_with fail
        refine (within_any r.places _ c.args _ HA.out (by omega)).mono ?_
        rintro en w3 ⟨rfl, hb3⟩
        rw [Ww1.out]
        have HB := Lib.hid (HB.out.trans (hb3.mono HB.out.size))
        have KR := Lib.hid (KR.out.below hb3 KR.out.lt)
        have KC := Lib.hid (KC.out.below hb3 KC.out.lt)
        have KS := Lib.hid (KS.out.below hb3 KS.out.lt)
        have HA := Lib.hid (HA.out.below hb3 (Nat.le_refl _))
        have HU := Lib.hid (HU.out.below hb3 (Nat.le_refl _))
        have HT := Lib.hid (HT.out.below hb3 (Nat.le_refl _))
        clear hb3
        clear r0 r1 r2 r3 r4 d0 d1 d2 d3 d4 s0 s1 s2 s3 s4
        obtain ⟨r0, r1, r2, r3, r4⟩ := blk5 KR.out
        obtain ⟨d0, d1, d2, d3, d4⟩ := blk5 KC.out
        obtain ⟨s0, s1, s2, s3, s4⟩ := blk5 KS.out
        go_wp2
        go_ret
        exact ⟨by rw [HV.out]; rfl, HB.out⟩
      ·have g1 : decide ((c.n : Int) ≤ (most : Int)) = true := by simp; omega
       have g1n : c.n ≤ most := by omega
       have g2 : ((c.args.length : Int) == (i.length : Int)) = true := by simp; omega
       have g2n : (c.args.length == i.length) = true := by simp; omega
       have g3 : ((c.outs.length : Int) == (o.length : Int)) = true := by simp; omega
       have g3n : (c.outs.length == o.length) = true := by simp; omega
       have g4 : decide (a ≤ (c.to.length : Int)) = true := by simpa using qf
       have g5 : decide ((c.to.length : Int) ≤ b) = false := by simpa using qt
       have HV := Lib.hid (show codeOk e r c = false by rw [HE.out]; simp only [insB, decide_eq_true qn, decide_eq_true qa, decide_eq_true qu, decide_eq_true qf, decide_eq_false qt, Bool.true_and, Bool.false_and, Bool.and_true])
       clear qn qa qu
       go_wp2
       go_ret
       exact ⟨by rw [HV.out]; rfl, HB.out⟩
     ·have g1 : decide ((c.n : Int) ≤ (most : Int)) = true := by simp; omega
      have g1n : c.n ≤ most := by omega
      have g2 : ((c.args.length : Int) == (i.length : Int)) = true := by simp; omega
      have g2n : (c.args.length == i.length) = true := by simp; omega
      have g3 : ((c.outs.length : Int) == (o.length : Int)) = true := by simp; omega
      have g3n : (c.outs.length == o.length) = true := by simp; omega
      have g4 : decide (a ≤ (c.to.length : Int)) = false := by simpa using qf
      have HV := Lib.hid (show codeOk e r c = false by rw [HE.out]; simp only [insB, decide_eq_true qn, decide_eq_true qa, decide_eq_true qu, decide_eq_false qf, Bool.true_and, Bool.false_and, Bool.and_true])
      clear qn qa qu
      go_wp2
      go_ret
      exact ⟨by rw [HV.out]; rfl, HB.out⟩
    ·have g1 : decide ((c.n : Int) ≤ (most : Int)) = true := by simp; omega
     have g1n : c.n ≤ most := by omega
     have g2 : ((c.args.length : Int) == (i.length : Int)) = true := by simp; omega
     have g2n : (c.args.length == i.length) = true := by simp; omega
     have g3 : ((c.outs.length : Int) == (o.length : Int)) = false := by simp; omega
     have g3n : (c.outs.length == o.length) = false := by simp; omega
     have HV := Lib.hid (show codeOk e r c = false by rw [HE.out]; simp only [insB, decide_eq_true qn, decide_eq_true qa, decide_eq_false qu, Bool.true_and, Bool.false_and, Bool.and_true])
     clear qn qa qu
     go_wp2
     go_ret
     exact ⟨by rw [HV.out]; rfl, HB.out⟩
   ·have g1 : decide ((c.n : Int) ≤ (most : Int)) = true := by simp; omega
    have g1n : c.n ≤ most := by omega
    have g2 : ((c.args.length : Int) == (i.length : Int)) = false := by simp; omega
    have g2n : (c.args.length == i.length) = false := by simp; omega
    have HV := Lib.hid (show codeOk e r c = false by rw [HE.out]; simp only [insB, decide_eq_true qn, decide_eq_false qa, Bool.true_and, Bool.false_and, Bool.and_true])
    clear qn qa
    go_wp2
    go_ret
    exact ⟨by rw [HV.out]; rfl, HB.out⟩
  ·have g1 : decide ((c.n : Int) ≤ (most : Int)) = false := by simp; omega
   have g1n : ¬ c.n ≤ most := by omega
   have HV := Lib.hid (show codeOk e r c = false by rw [HE.out]; simp only [insB, decide_eq_false qn, Bool.true_and, Bool.false_and, Bool.and_true])
   clear qn
   go_wp2
   go_ret
   exact ⟨by rw [HV.out]; rfl, HB.out⟩
end Go.Proofs.YtgmapikcpnffhaaGreat
