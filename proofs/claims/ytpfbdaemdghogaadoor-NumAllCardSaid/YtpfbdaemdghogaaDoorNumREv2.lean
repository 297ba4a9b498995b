/-
  The reference's Eval at some groups of operators (part 2).
  Conditions: the numbers fit their types.
-/
import Derived.Test.YtpfbdaemdghogaaDoorNumREv0
namespace Go.Proofs.YtpfbdaemdghogaaDoor
open Go.RowKit Go.Bk Go.Bk.Num
set_option linter.unusedVariables false
set_option linter.unusedSimpArgs false
set_option maxRecDepth 100000 in
set_option maxHeartbeats 4000000 in
theorem reval_70 (op : Int) (kn : Nat) (hk : kn < 10) (hop : op = 70 + (kn : Int)) (x y : Nat) (hx : x < 4294967296) (hy : y < 4294967296) (A : Option Addr) (cp : Nat) (w : World) (hs : Bk.Src w A 2 (u64V [x, y])) :
    Calls Tryd.prog 11 #[.int .i64 op, .slice A 2 cp] w (EvPost ((b01 ((relL x y (wrap32 x) (wrap32 y)).getD kn false), 0)) w) := by
  have z1 : 70 ≤ op := by omega
  have z2 : op ≤ 79 := by omega
  have hg : grpOf op = some (70, 10, 1, 127) := by
    rcases grp_cases op with ⟨hg, z3, z4, z5, z6, z7⟩ | ⟨hg, z3, z4⟩ | ⟨hg, z3, z4⟩ | ⟨hg, z3, z4⟩ | ⟨hg, z3, z4⟩ | ⟨hg, z3, z4⟩ | ⟨hg, z3, z4⟩ | ⟨hg, z3, z4⟩ | ⟨hg, z3, z4⟩ | ⟨hg, z3, z4⟩ | ⟨hg, z3, z4⟩ | ⟨hg, z3, z4⟩ | ⟨hg, z3, z4⟩ <;> first | exact hg | (exfalso; omega)
  have t0 : (op == 69) = false := eqF (by omega)
  have t1 : (op == 80) = false := eqF (by omega)
  have t2 : inB op 70 79 = true := inT (by omega) (by omega)
  have t3 : inB op 81 90 = false := inF (by omega)
  have t4 : inB op 103 105 = false := inF (by omega)
  have t5 : inB op 121 123 = false := inF (by omega)
  have t6 : inB op 106 120 = false := inF (by omega)
  have t7 : inB op 124 138 = false := inF (by omega)
  have t8 : (op == 167) = false := eqF (by omega)
  have t9 : (op == 172) = false := eqF (by omega)
  have t10 : (op == 173) = false := eqF (by omega)
  have HOP := Lib.hid hop
  clear hop
  have HI := Lib.hid (show (grpOf op).isSome = true by simp [hg])
  have HSL := Lib.hid (show sigL op = [127, 127] by simp [sigL, hg])
  have HNE := Lib.hid (show (sigL op).length = 2 by simp [sigL, hg])
  obtain ⟨ab, ao, rfl, hab⟩ := hs.addr (by omega)
  have HS := Lib.hid hs
  clear hg hs
  go_enter Tryd.func11, Tryd.ntmps11
  go_wp2_with fail
  refine (RSig_any op _).mono ?_
  rintro e w1 ⟨A2, c2, rfl, ho2, hb1⟩
  rw [HI.out, HNE.out]
  rw [HNE.out, HSL.out] at ho2
  obtain ⟨g2, c2', e, hgl, hge, _⟩ := own_at ho2 (by omega)
  injection e with e1 e2 e3
  subst e1
  subst e3
  have hz : w.heap.size ≤ w1.heap.size := hb1.size
  have hge' : g2 < w1.heap.size := hgl
  have HOW := Lib.hid ho2
  have HB1 := Lib.hid hb1
  have ha1 : ab < w1.heap.size := by omega
  have hl0 : w1.cell? ⟨g2, 0, none⟩ = some (.int .i64 127) := by have := HOW.out.cells (g := g2) rfl 0 (.int .i64 127) rfl; rwa [Addr.add_lit] at this
  have hx0 := (HS.out.below hb1 (Nat.le_refl _)).at_ (k := 0) (by omega)
  simp only [u64V, List.map_cons, List.map_nil, List.getElem_cons_zero, Nat.add_zero] at hx0
  have hl1 : w1.cell? ⟨g2, 1, none⟩ = some (.int .i64 127) := by have := HOW.out.cells (g := g2) rfl 1 (.int .i64 127) rfl; rwa [Addr.add_lit] at this
  have hx1 := (HS.out.below hb1 (Nat.le_refl _)).at_ (k := 1) (by omega)
  simp only [u64V, List.map_cons, List.map_nil, List.getElem_cons_zero, List.getElem_cons_succ] at hx1
  have hfx : fitsN 127 x = true := fits127 hx
  have hfy : fitsN 127 y = true := fits127 hy
  have hlv : ∀ k, k < 2 → ∃ v : Nat, w1.cell? ⟨ab, ao + k, none⟩ = some (.int .u64 v) ∧ fitsN 127 v = true ∧ w1.cell? ⟨g2, k, none⟩ = some (.int .i64 127) := by
    intro k hk
    rcases (show k = 0 ∨ k = 1 by omega) with rfl | rfl
    · exact ⟨x, hx0, hfx, hl0⟩
    · exact ⟨y, hx1, hfy, hl1⟩
  have HLV := Lib.hid hlv
  clear ho2 hb1 HOW HS hfx hlv hfy
  go_wp2_with fail
  go_loopw [9] (fun i wr => ∃ k : Nat, k ≤ 2 ∧ i = .int .i64 k ∧ Hid (Below w1.heap.size w1 wr)) (fun i _ => 2 + 1 - (intOf i).toNat)
  case atStart => exact ⟨0, by omega, rfl, Lib.hid (Below.refl _ _)⟩
  case round =>
    rename_i wr
    obtain ⟨k, hk', rfl, HBR⟩ := hrel
    by_cases hlt : k < 2
    · obtain ⟨v, hv1, hv2, hv3⟩ := HLV.out k hlt
      have hlt' : decide ((k : Int) < 2) = true := by simp; omega
      have hlt2 : (k : Int) < 2 := by omega
      have hv1' := (HBR.out.cell (p := ⟨ab, ao + k, none⟩) ha1).trans hv1
      have hv3' := (HBR.out.cell (p := ⟨g2, k, none⟩) hge').trans hv3
      have HF := Lib.hid hv2
      clear hv1 hv2 hv3 hx0 hl0 hx1 hl1
      go_wp2_with fail
      go_quiet ((go_at_call 16; exact Calls.quiet_of_same ((RFits_any 127 v _).mono fun _ _ ⟨h1, h2⟩ => ⟨h1.trans (by rw [HF.out]), h2.symm⟩)))
      go_wp2
      exact ⟨⟨k + 1, by omega, by simp, Lib.hid (below_drewN HBR.out _)⟩, by simp [intOf]; omega⟩
    · obtain rfl : k = 2 := by omega
      have hx0' := (HBR.out.cell (p := ⟨ab, ao, none⟩) ha1).trans hx0
      have hl0' := (HBR.out.cell (p := ⟨g2, 0, none⟩) hge').trans hl0
      have hx1' := (HBR.out.cell (p := ⟨ab, ao + 1, none⟩) ha1).trans hx1
      have HBW := Lib.hid (HB1.out.trans (HBR.out.mono hz))
      have hzr : w.heap.size ≤ wr.heap.size := HBW.out.size
      have har : ab < wr.heap.size := by have := HBR.out.size; omega
      clear hx0 hl0 hx1 hl1 HLV
      go_wp2_with fail
      refine (width32 _).mono ?_
      rintro e w2 ⟨rfl, rfl⟩
      go_wp2_with (go_at_call 35; refine (in_any _ _ _ _).mono ?_; rintro e w1 ⟨rfl, rfl⟩)
      go_region_with ((go_at_call 36; refine (comp32x _ kn x y _ (by have := HOP.out; rw [IntWalk.i64_in _ (by omega)]; omega) hk (by omega) (by omega)).mono ?_; rintro e w2 ⟨rfl, hb2⟩; have HB2 := Lib.hid hb2; clear hb2))
      all_goals
        go_wp2
        go_ret2
        unfold EvPost
        exact ⟨rfl, HBW.out.drew.trans (HB2.out.mono hzr)⟩
end Go.Proofs.YtpfbdaemdghogaaDoor
