/-
 Environments: whether one may be, as the document tells it.
 Conditions: none.
-/
import Derived.Test.YtgmapikcpnffhaaGreatLivEnv
namespace Go.Proofs.YtgmapikcpnffhaaGreat
open Go.RowKit Go.Bk Go.Bk.Liv
set_option linter.unusedVariables false
set_option linter.unusedSimpArgs false

theorem take_all {α : Type} {l : List α} {k : Nat} {p : α} {q : α → Bool} (h : l[k]? = some p) (h1 : (l.take k).all q = true) (h2 : q p = true) : (l.take (k + 1)).all q = true := by
 obtain ⟨hk', e⟩ := List.getElem?_eq_some_iff.1 h
 rw [List.take_succ_eq_append_getElem hk', e, List.all_append, h1]
 simp [h2]
theorem miss_all {α : Type} {l : List α} {k : Nat} {p : α} {q : α → Bool} (h : l[k]? = some p) (h2 : q p = false) : l.all q = false := by
 rw [List.all_eq_false]
 exact ⟨p, List.mem_of_getElem? h, by simp [h2]⟩

theorem rkind_any (t : Int) (w : World) : Calls Tryz.prog 113 #[.int .i64 t] w fun e w' => e = .returned (.bool (isK t)) ∧ w = w' := by
 cases h1 : (t == 127) with
 | true =>
  have HE := Lib.hid (show isK t = true by simp [isK, h1])
  go_enter Tryz.func113, Tryz.ntmps113
  go_wp2
  go_ret
  exact ⟨by rw [HE.out]; rfl, rfl⟩
 | false =>
  have HE := Lib.hid (show isK t = (t == 126) by simp only [isK, h1, Bool.false_or])
  go_enter Tryz.func113, Tryz.ntmps113
  go_wp2
  go_ret
  exact ⟨by rw [HE.out]; rfl, rfl⟩
set_option maxHeartbeats 1000000 in
theorem rkinds_any (m : Nat) (mi : Int) (hmi : mi = m) (v : Value) (l : List Int) (w : World) (hs : IR w v l) (hm : l.length ≤ 9223372036854775807) :
  Calls Tryz.prog 83 #[v, .int .i64 mi] w fun e w' => e = .returned (.bool (kindsOk m l)) ∧ Below w.heap.size w w' := by
 obtain ⟨A, c, rfl⟩ := hs.shape
 have HS := Lib.hid hs
 clear hs
 obtain ⟨n, hn⟩ : ∃ n, l.length = n := ⟨_, rfl⟩
 rw [hn] at hm ⊢
 have HN := Lib.hid hn
 by_cases h : n ≤ m
 ·have h' : decide (mi < (n : Int)) = false := by simp; omega
  have HE := Lib.hid (show kindsOk m l = l.all isK by simp [kindsOk, hn, h])
  clear h hmi hn
  go_enter Tryz.func83, Tryz.ntmps83
  go_wp2
  go_loopw [5] (fun i wr => ∃ k : Nat, k ≤ n ∧ i = .int .i64 k ∧ Hid ((l.take k).all isK = true) ∧ Hid (Below w.heap.size w wr)) (fun i _ => n - (intOf i).toNat)
  case atStart => exact ⟨0, by omega, rfl, Lib.hid rfl, Lib.hid (Below.refl _ _)⟩
  case round =>
   obtain ⟨k, hk, rfl, IA, IB⟩ := hrel
   by_cases hlt : k < n
   ·have hlt' : decide ((k : Int) < n) = true := by simp; omega
    have hlt2 : (k : Int) < n := by omega
    obtain ⟨x, hx⟩ : ∃ x, l[k]? = some x := ⟨_, List.getElem?_eq_getElem (by rw [HN.out]; exact hlt)⟩
    have hss := HS.out.below IB.out (Nat.le_refl _)
    rw [HN.out] at hss
    obtain ⟨ab, ao, rfl, hab, hcl⟩ := hss.cell hx
    have HX := Lib.hid hx
    clear hx hss
    cases hh : isK x with
    | true =>
     have HH := Lib.hid hh
     clear hh
     go_wp2_with (go_at_call 113; refine (rkind_any _ _).mono ?_; rintro e w3 ⟨rfl, rfl⟩; rw [HH.out])
     exact ⟨⟨k + 1, by omega, by simp, Lib.hid (take_all HX.out IA.out HH.out), IB⟩, by simp [intOf]; omega⟩
    | false =>
     have HH := Lib.hid hh
     clear hh
     go_wp2_with (go_at_call 113; refine (rkind_any _ _).mono ?_; rintro e w3 ⟨rfl, rfl⟩; rw [HH.out])
     go_ret
     exact ⟨by rw [HE.out, miss_all HX.out HH.out]; rfl, IB.out⟩
   ·have hlt' : decide ((k : Int) < n) = false := by simp; omega
    have HF := Lib.hid (show l.all isK = true by have := IA.out; rwa [List.take_of_length_le (by rw [HN.out]; omega)] at this)
    go_wp2
    go_ret
    exact ⟨by rw [HE.out, HF.out]; rfl, IB.out⟩
 ·have h' : decide (mi < (n : Int)) = true := by simp; omega
  have HE := Lib.hid (show kindsOk m l = false by simp [kindsOk, hn, h])
  clear h hmi hn
  go_enter Tryz.func83, Tryz.ntmps83
  go_wp2
  go_ret
  exact ⟨by rw [HE.out]; rfl, Below.refl _ _⟩
theorem rsig_any (v : Value) (s : SigD) (w : World) (hs : SigV w v s) :
  Calls Tryz.prog 84 #[v] w fun e w' => e = .returned (.bool (sigOk s)) ∧ Below w.heap.size w w' := by
 obtain ⟨a, b, rfl, hi, ho⟩ := hs
 obtain ⟨Ai, ci, rfl⟩ := hi.shape
 obtain ⟨Ao, co, rfl⟩ := ho.shape
 have hi1 := hi.lenV
 have ho1 := ho.lenV
 have B0 := Lib.hid (show Below w.heap.size w (w.alloc (.cells #[.slice Ai s.inn.length ci, .slice Ao s.out.length co] 28)) from (Below.refl _ _).alloc (Nat.le_refl _) _)
 have HI := Lib.hid (hi.ir.below B0.out (Nat.le_refl _))
 have HO := Lib.hid (ho.ir.below B0.out (Nat.le_refl _))
 have hc0 := Blk.new w 28 #[.slice Ai s.inn.length ci, .slice Ao s.out.length co]
 have HC0 := Lib.hid hc0
 have c0 := hc0.cell 0
 have c1 := hc0.cell 1
 simp at c0 c1
 clear hi ho hc0
 cases h : kindsOk 8 s.inn with
 | true =>
  have HK := Lib.hid h
  have HE := Lib.hid (show sigOk s = kindsOk 8 s.out by simp only [sigOk, h, Bool.true_and])
  clear h
  go_enter Tryz.func84, Tryz.ntmps84
  go_wp2_with fail
  refine (rkinds_any 8 8 rfl _ s.inn _ HI.out (by omega)).mono ?_
  rintro e w1 ⟨rfl, hb1⟩
  rw [HK.out]
  have HB := Lib.hid (B0.out.trans (hb1.mono B0.out.size))
  have HO1 := Lib.hid (HO.out.below hb1 (Nat.le_refl _))
  have hc1 := HC0.out.below hb1 HC0.out.lt
  have d0 := hc1.cell 0
  have d1 := hc1.cell 1
  simp at d0 d1
  clear hb1 hc1
  go_wp2_with fail
  refine (rkinds_any 8 8 rfl _ s.out _ HO1.out (by omega)).mono ?_
  rintro e w2 ⟨rfl, hb2⟩
  have HB2 := Lib.hid (HB.out.trans (hb2.mono HB.out.size))
  clear hb2
  go_wp2
  go_ret
  exact ⟨by rw [HE.out]; rfl, HB2.out⟩
 | false =>
  have HK := Lib.hid h
  have HE := Lib.hid (show sigOk s = false by simp only [sigOk, h, Bool.false_and])
  clear h
  go_enter Tryz.func84, Tryz.ntmps84
  go_wp2_with fail
  refine (rkinds_any 8 8 rfl _ s.inn _ HI.out (by omega)).mono ?_
  rintro e w1 ⟨rfl, hb1⟩
  rw [HK.out]
  have HB := Lib.hid (B0.out.trans (hb1.mono B0.out.size))
  clear hb1
  go_wp2
  go_ret
  exact ⟨by rw [HE.out]; rfl, HB.out⟩

theorem renv_cases (e : EnvD) : (decide (64 < (e.sigs.length : Int)) = true ∧ envOk e = false) ∨ (decide (64 < (e.sigs.length : Int)) = false ∧ decide (e.imports < 0) = true ∧ envOk e = false) ∨
  (decide (64 < (e.sigs.length : Int)) = false ∧ decide (e.imports < 0) = false ∧ decide ((e.sigs.length : Int) < e.imports) = true ∧ envOk e = false) ∨
  (decide (64 < (e.sigs.length : Int)) = false ∧ decide (e.imports < 0) = false ∧ decide ((e.sigs.length : Int) < e.imports) = false ∧ kindsOk 32 e.globals = false ∧ envOk e = false) ∨
  (decide (64 < (e.sigs.length : Int)) = false ∧ decide (e.imports < 0) = false ∧ decide ((e.sigs.length : Int) < e.imports) = false ∧ kindsOk 32 e.globals = true ∧ ((e.muts.length : Int) != (e.globals.length : Int)) = true ∧ (e.muts.length != e.globals.length) = true ∧ envOk e = false) ∨
  (decide (64 < (e.sigs.length : Int)) = false ∧ decide (e.imports < 0) = false ∧ decide ((e.sigs.length : Int) < e.imports) = false ∧ kindsOk 32 e.globals = true ∧ ((e.muts.length : Int) != (e.globals.length : Int)) = false ∧ (e.muts.length != e.globals.length) = false ∧ envOk e = e.sigs.all sigOk) := by
 rcases env_cases e with ⟨h1, he⟩ | ⟨h1, h2, he⟩ | ⟨h1, h2, h3, he⟩ | ⟨h1, h2, h3, h4, h4', he⟩ | ⟨h1, h2, h3, h4, h4', he⟩
 ·cases h3 : decide (64 < (e.sigs.length : Int)) with
  | true => exact .inl ⟨rfl, he⟩
  | false => exact .inr (.inl ⟨rfl, h1, he⟩)
 ·cases h3 : decide (64 < (e.sigs.length : Int)) with
  | true => exact .inl ⟨rfl, he⟩
  | false => exact .inr (.inr (.inl ⟨rfl, h1, h2, he⟩))
 ·exact .inl ⟨h3, he⟩
 ·cases hk : kindsOk 32 e.globals with
  | false => exact .inr (.inr (.inr (.inl ⟨h3, h1, h2, rfl, he⟩)))
  | true => exact .inr (.inr (.inr (.inr (.inl ⟨h3, h1, h2, rfl, h4, h4', he⟩))))
 ·cases hk : kindsOk 32 e.globals with
  | false => exact .inr (.inr (.inr (.inl ⟨h3, h1, h2, rfl, by rw [he, hk]; rfl⟩)))
  | true => exact .inr (.inr (.inr (.inr (.inr ⟨h3, h1, h2, rfl, h4, h4', by rw [he, hk]; rfl⟩))))

set_option maxRecDepth 100000 in
set_option maxHeartbeats 2000000 in
theorem REnvRight_any (v : Value) (e : EnvD) (w : World) (hs : EnvV w v e) :
  Calls Tryz.prog 44 #[v] w fun en w' => en = .returned (.bool (envOk e)) ∧ Below w.heap.size w w' := by
 obtain ⟨a, b, d, rfl, hs, hg, hm⟩ := hs
 obtain ⟨As, cs, rfl, _⟩ := hs.len
 obtain ⟨Ag, cg, rfl⟩ := hg.shape
 obtain ⟨Am, cm, rfl, _⟩ := hm
 have hg1 := hg.lenV
 have hs1 := hs.lenV
 have B0 := Lib.hid (show Below w.heap.size w (w.alloc (.cells #[.slice As e.sigs.length cs, .int .i64 e.imports, .slice Ag e.globals.length cg, .slice Am e.muts.length cm, .bool e.mem] 26)) from (Below.refl _ _).alloc (Nat.le_refl _) _)
 have HS := Lib.hid (hs.below B0.out (Nat.le_refl _) (fun _ _ h => h.below B0.out (Nat.le_refl _)))
 have HG := Lib.hid (hg.ir.below B0.out (Nat.le_refl _))
 have HC0 := Lib.hid (Blk.new w 26 #[.slice As e.sigs.length cs, .int .i64 e.imports, .slice Ag e.globals.length cg, .slice Am e.muts.length cm, .bool e.mem])
 clear hs hg
 rcases renv_cases e with ⟨h1, he⟩ | ⟨h1, h2, he⟩ | ⟨h1, h2, h3, he⟩ | ⟨h1, h2, h3, h4, he⟩ | ⟨h1, h2, h3, h4, h5, h5', he⟩ | ⟨h1, h2, h3, h4, h5, h5', he⟩
 ·have HE := Lib.hid he
  clear he
  go_enter Tryz.func44, Tryz.ntmps44
  go_wp2
  go_ret
  exact ⟨by rw [HE.out]; rfl, B0.out⟩
 ·have HE := Lib.hid he
  clear he
  go_enter Tryz.func44, Tryz.ntmps44
  go_wp2
  go_ret
  exact ⟨by rw [HE.out]; rfl, B0.out⟩
 ·have HE := Lib.hid he
  clear he
  go_enter Tryz.func44, Tryz.ntmps44
  go_wp2
  go_ret
  exact ⟨by rw [HE.out]; rfl, B0.out⟩
 all_goals
  have HE := Lib.hid he
  have HK := Lib.hid h4
  clear he h4
  go_enter Tryz.func44, Tryz.ntmps44
  go_wp2_with fail
  refine (rkinds_any 32 32 rfl _ e.globals _ HG.out (by omega)).mono ?_
  rintro en w1 ⟨rfl, hb1⟩
  rw [HK.out]
  have HB := Lib.hid (B0.out.trans (hb1.mono B0.out.size))
  have HS1 := Lib.hid (HS.out.below hb1 (Nat.le_refl _) (fun _ _ h => h.below hb1 (Nat.le_refl _)))
  have HC1 := Lib.hid (HC0.out.below hb1 HC0.out.lt)
  have d0 := HC1.out.cell 0
  have d2 := HC1.out.cell 2
  have d3 := HC1.out.cell 3
  simp at d0 d2 d3
  clear hb1
 ·go_wp2
  go_ret
  exact ⟨by rw [HE.out]; rfl, HB.out⟩
 ·go_wp2
  go_ret
  exact ⟨by rw [HE.out]; rfl, HB.out⟩
 ·go_wp2
  clear d0 d2 d3
  go_loopw [3] (fun i wr => ∃ k : Nat, k ≤ e.sigs.length ∧ i = .int .i64 k ∧ Hid ((e.sigs.take k).all sigOk = true) ∧ Hid (Below w1.heap.size w1 wr)) (fun i _ => e.sigs.length - (intOf i).toNat)
  case atStart => exact ⟨0, by omega, rfl, Lib.hid rfl, Lib.hid (Below.refl _ _)⟩
  case round =>
   obtain ⟨k, hk, rfl, IA, IB⟩ := hrel
   have HC2 := Lib.hid (HC1.out.below IB.out HC1.out.lt)
   have d0 := HC2.out.cell 0
   simp at d0
   by_cases hlt : k < e.sigs.length
   ·have hlt' : decide ((k : Int) < (e.sigs.length : Int)) = true := by simp; omega
    have hlt2 : (k : Int) < (e.sigs.length : Int) := by omega
    obtain ⟨x, hx⟩ : ∃ x, e.sigs[k]? = some x := ⟨_, List.getElem?_eq_getElem hlt⟩
    obtain ⟨ab, ao, p, q, rfl, hab, c0, c1, s0, s1⟩ := (HS1.out.below IB.out (Nat.le_refl _) (fun _ _ h => h.below IB.out (Nat.le_refl _))).sig hx
    obtain ⟨pA, pc, rfl⟩ := s0.shape
    obtain ⟨qA, qc, rfl⟩ := s1.shape
    have HSV := Lib.hid (show SigV wr (.agg #[_, _]) x from ⟨_, _, rfl, s0, s1⟩)
    have HX := Lib.hid hx
    clear hx s0 s1
    cases hh : sigOk x with
    | true =>
     have HH := Lib.hid hh
     clear hh
     go_wp2_with fail
     refine (rsig_any _ x _ HSV.out).mono ?_
     rintro en w3 ⟨rfl, hb3⟩
     rw [HH.out]
     have IB3 := Lib.hid (IB.out.trans (hb3.mono IB.out.size))
     clear hb3
     go_wp2
     exact ⟨⟨k + 1, by omega, by simp, Lib.hid (take_all HX.out IA.out HH.out), IB3⟩, by simp [intOf]; omega⟩
    | false =>
     have HH := Lib.hid hh
     clear hh
     go_wp2_with fail
     refine (rsig_any _ x _ HSV.out).mono ?_
     rintro en w3 ⟨rfl, hb3⟩
     rw [HH.out]
     have IB3 := Lib.hid (IB.out.trans (hb3.mono IB.out.size))
     clear hb3
     go_wp2
     go_ret
     exact ⟨by rw [HE.out, miss_all HX.out HH.out]; rfl, HB.out.trans (IB3.out.mono HB.out.size)⟩
   ·have hlt' : decide ((k : Int) < (e.sigs.length : Int)) = false := by simp; omega
    have HF := Lib.hid (show e.sigs.all sigOk = true by have := IA.out; rwa [List.take_of_length_le (by omega)] at this)
    go_wp2
    go_ret
    exact ⟨by rw [HE.out, HF.out]; rfl, HB.out.trans (IB.out.mono HB.out.size)⟩
end Go.Proofs.YtgmapikcpnffhaaGreat
