/-
  The reference's Eval at some groups of operators (part 12).
  Conditions: the numbers fit their types.
-/
import Derived.Test.YtpfbdaemdghogaaDoorNumREv0
namespace Go.Proofs.YtpfbdaemdghogaaDoor
open Go.RowKit Go.Bk Go.Bk.Num
set_option linter.unusedVariables false
set_option linter.unusedSimpArgs false
set_option maxRecDepth 100000 in
set_option maxHeartbeats 4000000 in
theorem reval_194 (x : Nat) (hx : x < 18446744073709551616) (A : Option Addr) (cp : Nat) (w : World) (hs : Bk.Src w A 1 (u64V [x])) :
    Calls Tryd.prog 11 #[.int .i64 194, .slice A 1 cp] w (EvPost ((extV 0 126 x, 0)) w) := by
  have hg : grpOf 194 = some (194, 3, 6, 126) := by decide +kernel
  have t0 : inB 194 70 79 = false := by decide
  have t1 : inB 194 81 90 = false := by decide
  have t2 : inB 194 103 105 = false := by decide
  have t3 : inB 194 121 123 = false := by decide
  have t4 : inB 194 106 120 = false := by decide
  have t5 : inB 194 124 138 = false := by decide
  have HI := Lib.hid (show (grpOf 194).isSome = true by simp [hg])
  have HSL := Lib.hid (show sigL 194 = [126] by simp [sigL, hg])
  have HNE := Lib.hid (show (sigL 194).length = 1 by simp [sigL, hg])
  obtain ⟨ab, ao, rfl, hab⟩ := hs.addr (by omega)
  have HS := Lib.hid hs
  clear hg hs
  go_enter Tryd.func11, Tryd.ntmps11
  go_wp2_with fail
  refine (RSig_any 194 _).mono ?_
  rintro e w1 ⟨A2, c2, rfl, ho2, hb1⟩
  rw [HI.out, HNE.out]
  rw [HNE.out, HSL.out] at ho2
  obtain ⟨g2, c2', e, hgl, hge, _⟩ := own_at ho2 (by omega)
  injection e with e1 e2 e3
  subst e1
  subst e3
  have hz : w.heap.size ≤ w1.heap.size := hb1.size
  have hge' : g2 < w1.heap.size := hgl
  have HOW := Lib.hid ho2
  have HB1 := Lib.hid hb1
  have ha1 : ab < w1.heap.size := by omega
  have hl0 : w1.cell? ⟨g2, 0, none⟩ = some (.int .i64 126) := by have := HOW.out.cells (g := g2) rfl 0 (.int .i64 126) rfl; rwa [Addr.add_lit] at this
  have hx0 := (HS.out.below hb1 (Nat.le_refl _)).at_ (k := 0) (by omega)
  simp only [u64V, List.map_cons, List.map_nil, List.getElem_cons_zero, Nat.add_zero] at hx0
  have hfx : fitsN 126 x = true := fits126 _
  have hlv : ∀ k, k < 1 → ∃ v : Nat, w1.cell? ⟨ab, ao + k, none⟩ = some (.int .u64 v) ∧ fitsN 126 v = true ∧ w1.cell? ⟨g2, k, none⟩ = some (.int .i64 126) := by
    intro k hk
    rcases (show k = 0 by omega) with rfl
    · exact ⟨x, hx0, hfx, hl0⟩
  have HLV := Lib.hid hlv
  clear ho2 hb1 HOW HS hfx hlv 
  go_wp2_with fail
  go_loopw [9] (fun i wr => ∃ k : Nat, k ≤ 1 ∧ i = .int .i64 k ∧ Hid (Below w1.heap.size w1 wr)) (fun i _ => 1 + 1 - (intOf i).toNat)
  case atStart => exact ⟨0, by omega, rfl, Lib.hid (Below.refl _ _)⟩
  case round =>
    rename_i wr
    obtain ⟨k, hk', rfl, HBR⟩ := hrel
    by_cases hlt : k < 1
    · obtain ⟨v, hv1, hv2, hv3⟩ := HLV.out k hlt
      have hlt' : decide ((k : Int) < 1) = true := by simp; omega
      have hlt2 : (k : Int) < 1 := by omega
      have hv1' := (HBR.out.cell (p := ⟨ab, ao + k, none⟩) ha1).trans hv1
      have hv3' := (HBR.out.cell (p := ⟨g2, k, none⟩) hge').trans hv3
      have HF := Lib.hid hv2
      clear hv1 hv2 hv3 hx0 hl0 
      go_wp2_with fail
      go_quiet ((go_at_call 16; exact Calls.quiet_of_same ((RFits_any 126 v _).mono fun _ _ ⟨h1, h2⟩ => ⟨h1.trans (by rw [HF.out]), h2.symm⟩)))
      go_wp2
      exact ⟨⟨k + 1, by omega, by simp, Lib.hid (below_drewN HBR.out _)⟩, by simp [intOf]; omega⟩
    · obtain rfl : k = 1 := by omega
      have hx0' := (HBR.out.cell (p := ⟨ab, ao, none⟩) ha1).trans hx0
      have hl0' := (HBR.out.cell (p := ⟨g2, 0, none⟩) hge').trans hl0
      have HBW := Lib.hid (HB1.out.trans (HBR.out.mono hz))
      have hzr : w.heap.size ≤ wr.heap.size := HBW.out.size
      have har : ab < wr.heap.size := by have := HBR.out.size; omega
      clear hx0 hl0  HLV
      go_wp2_with fail
      refine (width64 _).mono ?_
      rintro e w2 ⟨rfl, rfl⟩
      go_wp2_with (go_at_call 35; refine (in_any _ _ _ _).mono ?_; rintro e w1 ⟨rfl, rfl⟩)
      refine (signed8 (x : Int) _ (by omega) (by omega)).mono ?_
      rintro e w2 ⟨rfl, rfl⟩
      go_wp2_with fail
      refine (low64 _ _).mono ?_
      rintro e w2 ⟨rfl, rfl⟩
      go_wp2
      go_ret2
      unfold EvPost
      exact ⟨ret2_int (ext64_8 x), HBW.out.alloc hzr _⟩
set_option maxRecDepth 100000 in
set_option maxHeartbeats 4000000 in
theorem reval_195 (x : Nat) (hx : x < 18446744073709551616) (A : Option Addr) (cp : Nat) (w : World) (hs : Bk.Src w A 1 (u64V [x])) :
    Calls Tryd.prog 11 #[.int .i64 195, .slice A 1 cp] w (EvPost ((extV 1 126 x, 0)) w) := by
  have hg : grpOf 195 = some (194, 3, 6, 126) := by decide +kernel
  have t0 : inB 195 70 79 = false := by decide
  have t1 : inB 195 81 90 = false := by decide
  have t2 : inB 195 103 105 = false := by decide
  have t3 : inB 195 121 123 = false := by decide
  have t4 : inB 195 106 120 = false := by decide
  have t5 : inB 195 124 138 = false := by decide
  have HI := Lib.hid (show (grpOf 195).isSome = true by simp [hg])
  have HSL := Lib.hid (show sigL 195 = [126] by simp [sigL, hg])
  have HNE := Lib.hid (show (sigL 195).length = 1 by simp [sigL, hg])
  obtain ⟨ab, ao, rfl, hab⟩ := hs.addr (by omega)
  have HS := Lib.hid hs
  clear hg hs
  go_enter Tryd.func11, Tryd.ntmps11
  go_wp2_with fail
  refine (RSig_any 195 _).mono ?_
  rintro e w1 ⟨A2, c2, rfl, ho2, hb1⟩
  rw [HI.out, HNE.out]
  rw [HNE.out, HSL.out] at ho2
  obtain ⟨g2, c2', e, hgl, hge, _⟩ := own_at ho2 (by omega)
  injection e with e1 e2 e3
  subst e1
  subst e3
  have hz : w.heap.size ≤ w1.heap.size := hb1.size
  have hge' : g2 < w1.heap.size := hgl
  have HOW := Lib.hid ho2
  have HB1 := Lib.hid hb1
  have ha1 : ab < w1.heap.size := by omega
  have hl0 : w1.cell? ⟨g2, 0, none⟩ = some (.int .i64 126) := by have := HOW.out.cells (g := g2) rfl 0 (.int .i64 126) rfl; rwa [Addr.add_lit] at this
  have hx0 := (HS.out.below hb1 (Nat.le_refl _)).at_ (k := 0) (by omega)
  simp only [u64V, List.map_cons, List.map_nil, List.getElem_cons_zero, Nat.add_zero] at hx0
  have hfx : fitsN 126 x = true := fits126 _
  have hlv : ∀ k, k < 1 → ∃ v : Nat, w1.cell? ⟨ab, ao + k, none⟩ = some (.int .u64 v) ∧ fitsN 126 v = true ∧ w1.cell? ⟨g2, k, none⟩ = some (.int .i64 126) := by
    intro k hk
    rcases (show k = 0 by omega) with rfl
    · exact ⟨x, hx0, hfx, hl0⟩
  have HLV := Lib.hid hlv
  clear ho2 hb1 HOW HS hfx hlv 
  go_wp2_with fail
  go_loopw [9] (fun i wr => ∃ k : Nat, k ≤ 1 ∧ i = .int .i64 k ∧ Hid (Below w1.heap.size w1 wr)) (fun i _ => 1 + 1 - (intOf i).toNat)
  case atStart => exact ⟨0, by omega, rfl, Lib.hid (Below.refl _ _)⟩
  case round =>
    rename_i wr
    obtain ⟨k, hk', rfl, HBR⟩ := hrel
    by_cases hlt : k < 1
    · obtain ⟨v, hv1, hv2, hv3⟩ := HLV.out k hlt
      have hlt' : decide ((k : Int) < 1) = true := by simp; omega
      have hlt2 : (k : Int) < 1 := by omega
      have hv1' := (HBR.out.cell (p := ⟨ab, ao + k, none⟩) ha1).trans hv1
      have hv3' := (HBR.out.cell (p := ⟨g2, k, none⟩) hge').trans hv3
      have HF := Lib.hid hv2
      clear hv1 hv2 hv3 hx0 hl0 
      go_wp2_with fail
      go_quiet ((go_at_call 16; exact Calls.quiet_of_same ((RFits_any 126 v _).mono fun _ _ ⟨h1, h2⟩ => ⟨h1.trans (by rw [HF.out]), h2.symm⟩)))
      go_wp2
      exact ⟨⟨k + 1, by omega, by simp, Lib.hid (below_drewN HBR.out _)⟩, by simp [intOf]; omega⟩
    · obtain rfl : k = 1 := by omega
      have hx0' := (HBR.out.cell (p := ⟨ab, ao, none⟩) ha1).trans hx0
      have hl0' := (HBR.out.cell (p := ⟨g2, 0, none⟩) hge').trans hl0
      have HBW := Lib.hid (HB1.out.trans (HBR.out.mono hz))
      have hzr : w.heap.size ≤ wr.heap.size := HBW.out.size
      have har : ab < wr.heap.size := by have := HBR.out.size; omega
      clear hx0 hl0  HLV
      go_wp2_with fail
      refine (width64 _).mono ?_
      rintro e w2 ⟨rfl, rfl⟩
      go_wp2_with (go_at_call 35; refine (in_any _ _ _ _).mono ?_; rintro e w1 ⟨rfl, rfl⟩)
      refine (signed16 (x : Int) _ (by omega) (by omega)).mono ?_
      rintro e w2 ⟨rfl, rfl⟩
      go_wp2_with fail
      refine (low64 _ _).mono ?_
      rintro e w2 ⟨rfl, rfl⟩
      go_wp2
      go_ret2
      unfold EvPost
      exact ⟨ret2_int (ext64_16 x), HBW.out.alloc hzr _⟩
set_option maxRecDepth 100000 in
set_option maxHeartbeats 4000000 in
theorem reval_196 (x : Nat) (hx : x < 18446744073709551616) (A : Option Addr) (cp : Nat) (w : World) (hs : Bk.Src w A 1 (u64V [x])) :
    Calls Tryd.prog 11 #[.int .i64 196, .slice A 1 cp] w (EvPost ((extV 2 126 x, 0)) w) := by
  have hg : grpOf 196 = some (194, 3, 6, 126) := by decide +kernel
  have t0 : inB 196 70 79 = false := by decide
  have t1 : inB 196 81 90 = false := by decide
  have t2 : inB 196 103 105 = false := by decide
  have t3 : inB 196 121 123 = false := by decide
  have t4 : inB 196 106 120 = false := by decide
  have t5 : inB 196 124 138 = false := by decide
  have HI := Lib.hid (show (grpOf 196).isSome = true by simp [hg])
  have HSL := Lib.hid (show sigL 196 = [126] by simp [sigL, hg])
  have HNE := Lib.hid (show (sigL 196).length = 1 by simp [sigL, hg])
  obtain ⟨ab, ao, rfl, hab⟩ := hs.addr (by omega)
  have HS := Lib.hid hs
  clear hg hs
  go_enter Tryd.func11, Tryd.ntmps11
  go_wp2_with fail
  refine (RSig_any 196 _).mono ?_
  rintro e w1 ⟨A2, c2, rfl, ho2, hb1⟩
  rw [HI.out, HNE.out]
  rw [HNE.out, HSL.out] at ho2
  obtain ⟨g2, c2', e, hgl, hge, _⟩ := own_at ho2 (by omega)
  injection e with e1 e2 e3
  subst e1
  subst e3
  have hz : w.heap.size ≤ w1.heap.size := hb1.size
  have hge' : g2 < w1.heap.size := hgl
  have HOW := Lib.hid ho2
  have HB1 := Lib.hid hb1
  have ha1 : ab < w1.heap.size := by omega
  have hl0 : w1.cell? ⟨g2, 0, none⟩ = some (.int .i64 126) := by have := HOW.out.cells (g := g2) rfl 0 (.int .i64 126) rfl; rwa [Addr.add_lit] at this
  have hx0 := (HS.out.below hb1 (Nat.le_refl _)).at_ (k := 0) (by omega)
  simp only [u64V, List.map_cons, List.map_nil, List.getElem_cons_zero, Nat.add_zero] at hx0
  have hfx : fitsN 126 x = true := fits126 _
  have hlv : ∀ k, k < 1 → ∃ v : Nat, w1.cell? ⟨ab, ao + k, none⟩ = some (.int .u64 v) ∧ fitsN 126 v = true ∧ w1.cell? ⟨g2, k, none⟩ = some (.int .i64 126) := by
    intro k hk
    rcases (show k = 0 by omega) with rfl
    · exact ⟨x, hx0, hfx, hl0⟩
  have HLV := Lib.hid hlv
  clear ho2 hb1 HOW HS hfx hlv 
  go_wp2_with fail
  go_loopw [9] (fun i wr => ∃ k : Nat, k ≤ 1 ∧ i = .int .i64 k ∧ Hid (Below w1.heap.size w1 wr)) (fun i _ => 1 + 1 - (intOf i).toNat)
  case atStart => exact ⟨0, by omega, rfl, Lib.hid (Below.refl _ _)⟩
  case round =>
    rename_i wr
    obtain ⟨k, hk', rfl, HBR⟩ := hrel
    by_cases hlt : k < 1
    · obtain ⟨v, hv1, hv2, hv3⟩ := HLV.out k hlt
      have hlt' : decide ((k : Int) < 1) = true := by simp; omega
      have hlt2 : (k : Int) < 1 := by omega
      have hv1' := (HBR.out.cell (p := ⟨ab, ao + k, none⟩) ha1).trans hv1
      have hv3' := (HBR.out.cell (p := ⟨g2, k, none⟩) hge').trans hv3
      have HF := Lib.hid hv2
      clear hv1 hv2 hv3 hx0 hl0 
      go_wp2_with fail
      go_quiet ((go_at_call 16; exact Calls.quiet_of_same ((RFits_any 126 v _).mono fun _ _ ⟨h1, h2⟩ => ⟨h1.trans (by rw [HF.out]), h2.symm⟩)))
      go_wp2
      exact ⟨⟨k + 1, by omega, by simp, Lib.hid (below_drewN HBR.out _)⟩, by simp [intOf]; omega⟩
    · obtain rfl : k = 1 := by omega
      have hx0' := (HBR.out.cell (p := ⟨ab, ao, none⟩) ha1).trans hx0
      have hl0' := (HBR.out.cell (p := ⟨g2, 0, none⟩) hge').trans hl0
      have HBW := Lib.hid (HB1.out.trans (HBR.out.mono hz))
      have hzr : w.heap.size ≤ wr.heap.size := HBW.out.size
      have har : ab < wr.heap.size := by have := HBR.out.size; omega
      clear hx0 hl0  HLV
      go_wp2_with fail
      refine (width64 _).mono ?_
      rintro e w2 ⟨rfl, rfl⟩
      go_wp2_with (go_at_call 35; refine (in_any _ _ _ _).mono ?_; rintro e w1 ⟨rfl, rfl⟩)
      refine (signed32 (x : Int) _ (by omega) (by omega)).mono ?_
      rintro e w2 ⟨rfl, rfl⟩
      go_wp2_with fail
      refine (low64 _ _).mono ?_
      rintro e w2 ⟨rfl, rfl⟩
      go_wp2
      go_ret2
      unfold EvPost
      exact ⟨ret2_int (ext64_32 x), HBW.out.alloc hzr _⟩
end Go.Proofs.YtpfbdaemdghogaaDoor
