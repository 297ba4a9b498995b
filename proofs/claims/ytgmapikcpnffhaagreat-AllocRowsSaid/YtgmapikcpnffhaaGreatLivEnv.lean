/-
 Environments: whether one may be, as the program and as the document tell it.
 Conditions: none.
-/
import Derived.Test.YtgmapikcpnffhaaGreatLivCf
namespace Go.Proofs.YtgmapikcpnffhaaGreat
open Go.RowKit Go.Bk Go.Bk.Liv
set_option linter.unusedVariables false
set_option linter.unusedSimpArgs false

theorem isKind_any (t : Int) (w : World) : Calls Tryz.prog 118 #[.int .i64 t] w fun e w' => e = .returned (.bool (isK t)) ∧ w = w' := by
 cases h1 : (t == 127) with
 | true =>
  have HE := Lib.hid (show isK t = true by simp [isK, h1])
  go_enter Tryz.func118, Tryz.ntmps118
  go_wp2
  go_ret
  exact ⟨by rw [HE.out]; rfl, rfl⟩
 | false =>
  have HE := Lib.hid (show isK t = (t == 126) by simp only [isK, h1, Bool.false_or])
  go_enter Tryz.func118, Tryz.ntmps118
  go_wp2
  go_ret
  exact ⟨by rw [HE.out]; rfl, rfl⟩
theorem kinds1_any (t : Int) (w : World) : Calls Tryz.prog 117 #[.int .i64 t] w fun e w' => e = .returned (.bool (!isK t)) ∧ Below w.heap.size w w' := by
 go_enter Tryz.func117, Tryz.ntmps117
 go_wp2_with fail
 refine (isKind_any _ _).mono ?_
 rintro e w1 ⟨rfl, rfl⟩
 go_wp2
 go_ret
 exact ⟨rfl, Below.refl _ _⟩
theorem kinds_any (m : Nat) (mi : Int) (hmi : mi = m) (v : Value) (l : List Int) (w : World) (hs : IR w v l) (hm : l.length ≤ 9223372036854775807) :
  Calls Tryz.prog 94 #[.int .i64 mi, v] w fun e w' => e = .returned (.bool (kindsOk m l)) ∧ Below w.heap.size w w' := by
 obtain ⟨A, c, rfl⟩ := hs.shape
 have HS := Lib.hid hs
 clear hs
 by_cases h : l.length ≤ m
 ·have h' : decide ((l.length : Int) ≤ mi) = true := by simp; omega
  have HE := Lib.hid (show kindsOk m l = !(l.any fun x => !isK x) by rw [any_neg]; simp [kindsOk, h])
  clear h hmi
  go_enter Tryz.func94, Tryz.ntmps94
  go_wp2_with fail
  refine (cf_kinds1_any A l.length c l (fun x => !isK x) _ HS.out hm (fun x hx v w' hb e => by subst e; exact kinds1_any x w')).mono ?_
  rintro e w1 ⟨rfl, hb1⟩
  have HB := Lib.hid hb1
  clear hb1
  go_wp2
  go_ret
  exact ⟨by rw [HE.out]; rfl, HB.out⟩
 ·have h' : decide ((l.length : Int) ≤ mi) = false := by simp; omega
  have HE := Lib.hid (show kindsOk m l = false by simp [kindsOk, h])
  clear h hmi
  go_enter Tryz.func94, Tryz.ntmps94
  go_wp2
  go_ret
  exact ⟨by rw [HE.out]; rfl, Below.refl _ _⟩
theorem sigRight_any (v : Value) (s : SigD) (w : World) (hs : SigV w v s) :
  Calls Tryz.prog 97 #[v] w fun e w' => e = .returned (.bool (sigOk s)) ∧ Below w.heap.size w w' := by
 obtain ⟨a, b, rfl, hi, ho⟩ := hs
 obtain ⟨Ai, ci, rfl⟩ := hi.shape
 obtain ⟨Ao, co, rfl⟩ := ho.shape
 have hi1 := hi.lenV
 have ho1 := ho.lenV
 have B0 := Lib.hid (show Below w.heap.size w (w.alloc (.cells #[.slice Ai s.inn.length ci, .slice Ao s.out.length co] 28)) from (Below.refl _ _).alloc (Nat.le_refl _) _)
 have HI := Lib.hid (hi.ir.below B0.out (Nat.le_refl _))
 have HO := Lib.hid (ho.ir.below B0.out (Nat.le_refl _))
 have hc0 := Blk.new w 28 #[.slice Ai s.inn.length ci, .slice Ao s.out.length co]
 have HC0 := Lib.hid hc0
 have c0 := hc0.cell 0
 have c1 := hc0.cell 1
 simp at c0 c1
 clear hi ho hc0
 cases h : kindsOk 8 s.inn with
 | true =>
  have HK := Lib.hid h
  have HE := Lib.hid (show sigOk s = kindsOk 8 s.out by simp only [sigOk, h, Bool.true_and])
  clear h
  go_enter Tryz.func97, Tryz.ntmps97
  go_wp2_with fail
  refine (kinds_any 8 8 rfl _ s.inn _ HI.out (by omega)).mono ?_
  rintro e w1 ⟨rfl, hb1⟩
  rw [HK.out]
  have HB := Lib.hid (B0.out.trans (hb1.mono B0.out.size))
  have HO1 := Lib.hid (HO.out.below hb1 (Nat.le_refl _))
  have hc1 := HC0.out.below hb1 HC0.out.lt
  have d0 := hc1.cell 0
  have d1 := hc1.cell 1
  simp at d0 d1
  clear hb1 hc1
  go_wp2_with fail
  refine (kinds_any 8 8 rfl _ s.out _ HO1.out (by omega)).mono ?_
  rintro e w2 ⟨rfl, hb2⟩
  have HB2 := Lib.hid (HB.out.trans (hb2.mono HB.out.size))
  clear hb2
  go_wp2
  go_ret
  exact ⟨by rw [HE.out]; rfl, HB2.out⟩
 | false =>
  have HK := Lib.hid h
  have HE := Lib.hid (show sigOk s = false by simp only [sigOk, h, Bool.false_and])
  clear h
  go_enter Tryz.func97, Tryz.ntmps97
  go_wp2_with fail
  refine (kinds_any 8 8 rfl _ s.inn _ HI.out (by omega)).mono ?_
  rintro e w1 ⟨rfl, hb1⟩
  rw [HK.out]
  have HB := Lib.hid (B0.out.trans (hb1.mono B0.out.size))
  clear hb1
  go_wp2
  go_ret
  exact ⟨by rw [HE.out]; rfl, HB.out⟩
theorem envright1_any (v : Value) (s : SigD) (w : World) (hs : SigV w v s) :
  Calls Tryz.prog 96 #[v] w fun e w' => e = .returned (.bool (!sigOk s)) ∧ Below w.heap.size w w' := by
 have HS0 := Lib.hid hs
 obtain ⟨a, b, rfl, _⟩ := hs
 have B0 := Lib.hid (show Below w.heap.size w (w.alloc (.cells #[a, b] 28)) from (Below.refl _ _).alloc (Nat.le_refl _) _)
 have HS := Lib.hid (HS0.out.below B0.out (Nat.le_refl _))
 go_enter Tryz.func96, Tryz.ntmps96
 go_wp2_with fail
 refine (sigRight_any _ s _ HS.out).mono ?_
 rintro e w1 ⟨rfl, hb1⟩
 have HB := Lib.hid (B0.out.trans (hb1.mono B0.out.size))
 clear hb1
 go_wp2
 go_ret
 exact ⟨rfl, HB.out⟩

theorem env_cases (e : EnvD) : (decide (e.imports < 0) = true ∧ envOk e = false) ∨ (decide (e.imports < 0) = false ∧ decide ((e.sigs.length : Int) < e.imports) = true ∧ envOk e = false) ∨
  (decide (e.imports < 0) = false ∧ decide ((e.sigs.length : Int) < e.imports) = false ∧ decide (64 < (e.sigs.length : Int)) = true ∧ envOk e = false) ∨
  (decide (e.imports < 0) = false ∧ decide ((e.sigs.length : Int) < e.imports) = false ∧ decide (64 < (e.sigs.length : Int)) = false ∧ ((e.muts.length : Int) != (e.globals.length : Int)) = true ∧ (e.muts.length != e.globals.length) = true ∧ envOk e = false) ∨
  (decide (e.imports < 0) = false ∧ decide ((e.sigs.length : Int) < e.imports) = false ∧ decide (64 < (e.sigs.length : Int)) = false ∧ ((e.muts.length : Int) != (e.globals.length : Int)) = false ∧ (e.muts.length != e.globals.length) = false ∧ envOk e = (kindsOk 32 e.globals && e.sigs.all sigOk)) := by
 by_cases h1 : e.imports < 0
 ·refine .inl ⟨by simpa using h1, ?_⟩
  simp only [envOk]
  rw [decide_eq_false (by omega)]; rfl
 by_cases h2 : (e.sigs.length : Int) < e.imports
 ·refine .inr (.inl ⟨by simp; omega, by simpa using h2, ?_⟩)
  simp only [envOk]
  rw [decide_eq_false (by omega)]; rfl
 by_cases h3 : 64 < (e.sigs.length : Int)
 ·refine .inr (.inr (.inl ⟨by simp; omega, by simp; omega, by simpa using h3, ?_⟩))
  simp only [envOk]
  rw [decide_eq_false (by omega)]; rfl
 by_cases h4 : e.muts.length = e.globals.length
 ·refine .inr (.inr (.inr (.inr ⟨by simp; omega, by simp; omega, by simp; omega, by simp; omega, by simp; omega, ?_⟩)))
  simp only [envOk]
  rw [decide_eq_true (by omega)]; rfl
 ·refine .inr (.inr (.inr (.inl ⟨by simp; omega, by simp; omega, by simp; omega, by simp; omega, by simp; omega, ?_⟩)))
  simp only [envOk]
  rw [decide_eq_false (by omega)]; rfl

set_option maxRecDepth 100000 in
set_option maxHeartbeats 2000000 in
theorem EnvRight_any (v : Value) (e : EnvD) (w : World) (hs : EnvV w v e) :
  Calls Tryz.prog 60 #[v] w fun en w' => en = .returned (.bool (envOk e)) ∧ Below w.heap.size w w' := by
 obtain ⟨a, b, d, rfl, hs, hg, hm⟩ := hs
 obtain ⟨As, cs, rfl, _⟩ := hs.len
 obtain ⟨Ag, cg, rfl⟩ := hg.shape
 obtain ⟨Am, cm, rfl, _⟩ := hm
 have hg1 := hg.lenV
 have hs1 := hs.lenV
 have B0 := Lib.hid (show Below w.heap.size w (w.alloc (.cells #[.slice As e.sigs.length cs, .int .i64 e.imports, .slice Ag e.globals.length cg, .slice Am e.muts.length cm, .bool e.mem] 26)) from (Below.refl _ _).alloc (Nat.le_refl _) _)
 have HS := Lib.hid (hs.below B0.out (Nat.le_refl _) (fun _ _ h => h.below B0.out (Nat.le_refl _)))
 have HG := Lib.hid (hg.ir.below B0.out (Nat.le_refl _))
 have HC0 := Lib.hid (Blk.new w 26 #[.slice As e.sigs.length cs, .int .i64 e.imports, .slice Ag e.globals.length cg, .slice Am e.muts.length cm, .bool e.mem])
 clear hs hg
 rcases env_cases e with ⟨h1, he⟩ | ⟨h1, h2, he⟩ | ⟨h1, h2, h3, he⟩ | ⟨h1, h2, h3, h4, h4', he⟩ | ⟨h1, h2, h3, h4, h4', he⟩
 ·have HE := Lib.hid he
  clear he
  go_enter Tryz.func60, Tryz.ntmps60
  go_wp2
  go_ret
  exact ⟨by rw [HE.out]; rfl, B0.out⟩
 ·have HE := Lib.hid he
  clear he
  go_enter Tryz.func60, Tryz.ntmps60
  go_wp2
  go_ret
  exact ⟨by rw [HE.out]; rfl, B0.out⟩
 ·have HE := Lib.hid he
  clear he
  go_enter Tryz.func60, Tryz.ntmps60
  go_wp2
  go_ret
  exact ⟨by rw [HE.out]; rfl, B0.out⟩
 ·have HE := Lib.hid he
  clear he
  go_enter Tryz.func60, Tryz.ntmps60
  go_wp2
  go_ret
  exact ⟨by rw [HE.out]; rfl, B0.out⟩
 ·cases hk : kindsOk 32 e.globals with
  | false =>
   rw [hk] at he
   have HE := Lib.hid he
   have HK := Lib.hid hk
   clear he hk
   go_enter Tryz.func60, Tryz.ntmps60
   go_wp2_with fail
   refine (kinds_any 32 32 rfl _ e.globals _ HG.out (by omega)).mono ?_
   rintro en w1 ⟨rfl, hb1⟩
   rw [HK.out]
   have HB := Lib.hid (B0.out.trans (hb1.mono B0.out.size))
   clear hb1
   go_wp2
   go_ret
   exact ⟨by rw [HE.out]; rfl, HB.out⟩
  | true =>
   rw [hk] at he
   have HE := Lib.hid (show envOk e = !(e.sigs.any fun x => !sigOk x) by rw [he, any_neg]; rfl)
   have HK := Lib.hid hk
   clear he hk
   go_enter Tryz.func60, Tryz.ntmps60
   go_wp2_with fail
   refine (kinds_any 32 32 rfl _ e.globals _ HG.out (by omega)).mono ?_
   rintro en w1 ⟨rfl, hb1⟩
   rw [HK.out]
   have HB := Lib.hid (B0.out.trans (hb1.mono B0.out.size))
   have HS1 := Lib.hid (HS.out.below hb1 (Nat.le_refl _) (fun _ _ h => h.below hb1 (Nat.le_refl _)))
   have hc1 := HC0.out.below hb1 HC0.out.lt
   have d0 := hc1.cell 0
   simp at d0
   clear hb1 hc1
   go_wp2_with fail
   refine (cf_envright1_any As e.sigs.length cs e.sigs (fun x => !sigOk x) _ HS1.out (by omega) (fun x hx v w' hb hv => envright1_any v x w' hv)).mono ?_
   rintro en w2 ⟨rfl, hb2⟩
   have HB2 := Lib.hid (HB.out.trans (hb2.mono HB.out.size))
   clear hb2
   go_wp2
   go_ret
   exact ⟨by rw [HE.out]; rfl, HB2.out⟩
end Go.Proofs.YtgmapikcpnffhaaGreat
