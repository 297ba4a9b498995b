/-
  The statement LebHeads: no beginning of a number's bytes is one: the law answers true at every input.
  Conditions: none.
-/
import Derived.Test.YtlfbmpbnmakacaaSmall
import Derived.RegionTactic
import Derived.BigQuiet
import Derived.Deep.QuietTactic
namespace Go.Proofs.Ytlfbmpbnmakacaa
open Go.RowKit Go.Bk Go.Bk.Leb

theorem bys_take (l : List Nat) (i : Nat) : (bys l).take i = bys (l.take i) := by simp [bys, List.map_take]
theorem Src.take {w : World} {A : Option Addr} {n i : Nat} {l : List Nat} (h : Src w A n (bys l)) (hi : i ≤ n) : Src w A i (bys (l.take i)) := by
  have hl := h.1
  rw [bys_len] at hl
  refine ⟨by rw [bys_len, List.length_take]; omega, fun h0 => ?_⟩
  obtain ⟨b, o, e, hlt, hc⟩ := h.2 (by omega)
  refine ⟨b, o, e, hlt, fun j u hu => hc j u ?_⟩
  rw [← bys_take, List.getElem?_take] at hu
  split at hu
  · exact hu
  · cases hu

set_option maxRecDepth 100000 in
set_option maxHeartbeats 2000000 in
theorem heads_any (n : Nat) (cut : Int) (w : World) (hn : n < 18446744073709551616) (_hc1 : -9223372036854775808 ≤ cut) (_hc2 : cut ≤ 9223372036854775807) :
    Calls Try.prog 7 #[.int .u64 n, .int .i64 cut] w fun e w' => e = .returned (.bool true) ∧ Below w.heap.size w w' := by
  obtain ⟨m, hm⟩ : ∃ m : Int, wrap64 (n : Int) = m := ⟨_, rfl⟩
  have hm1 : -9223372036854775808 ≤ m := by unfold wrap64 at hm; omega
  have hm2 : m < 9223372036854775808 := by unfold wrap64 at hm; omega
  have hfu : FitU 9 (n : Int) := ⟨by omega, by omega⟩
  have hfs : FitS 9 m := ⟨by omega, by omega⟩
  have hlu := putU_lt n hfu
  have hls := putS_lt m hfs
  clear hn hm1 hm2
  go_enter Try.func7, Try.ntmps7
  go_wp2_with fail
  refine (PutU_nil _ _ hfu).mono ?_
  rintro e w1 ⟨A, ca, rfl, hca, hs, hb⟩
  have HS := Lib.hid hs
  have HB := Lib.hid hb
  clear hs hb
  go_wp2_with fail
  refine (PutS_nil _ _ hfs).mono ?_
  rintro e w2 ⟨B, cb, rfl, hcb, hs, hb⟩
  have HS2 := Lib.hid (HS.out.below hb (Nat.le_refl _))
  have HT := Lib.hid hs
  have HB2 := Lib.hid (HB.out.trans (hb.mono HB.out.size))
  clear hs hb HS HB
  generalize hx : putU (n : Int) = x at *
  generalize hy : putS m = y at *
  generalize hlx : x.length = lx at *
  generalize hly : y.length = ly at *
  have HX := Lib.hid hx
  have HY := Lib.hid hy
  have HLX := Lib.hid hlx
  have HLY := Lib.hid hly
  clear hx hy hlx hly
  obtain ⟨hlu1, hlu2⟩ := hlu
  obtain ⟨hls1, hls2⟩ := hls
  have gx : ((lx : Int) == 0) = false := by simp; omega
  have gy : ((ly : Int) == 0) = false := by simp; omega
  have tx1 : -10 < cut.tmod lx := by have := Int.lt_tmod_of_pos cut (show (0 : Int) < lx by omega); omega
  have tx2 : cut.tmod lx < 10 := by have := Int.tmod_lt_of_pos cut (show (0 : Int) < lx by omega); omega
  have ty1 : -10 < cut.tmod ly := by have := Int.lt_tmod_of_pos cut (show (0 : Int) < ly by omega); omega
  have ty2 : cut.tmod ly < 10 := by have := Int.tmod_lt_of_pos cut (show (0 : Int) < ly by omega); omega
  have tx3 : 0 ≤ cut.tmod lx + lx := by have := Int.lt_tmod_of_pos cut (show (0 : Int) < lx by omega); omega
  have ty3 : 0 ≤ cut.tmod ly + ly := by have := Int.lt_tmod_of_pos cut (show (0 : Int) < ly by omega); omega
  go_wp2_with fail
  go_quiet (fail)
  obtain ⟨i, hi, hil⟩ : ∃ i : Nat, (cut.tmod lx + lx) % (lx : Int) = i ∧ i < lx := by
    have h1 := Int.emod_nonneg (cut.tmod lx + lx) (show (lx : Int) ≠ 0 by omega)
    have h2 := Int.emod_lt_of_pos (cut.tmod lx + lx) (show (0 : Int) < lx by omega)
    exact ⟨_, (Int.toNat_of_nonneg h1).symm, by omega⟩
  obtain ⟨j, hj, hjl⟩ : ∃ i : Nat, (cut.tmod ly + ly) % (ly : Int) = i ∧ i < ly := by
    have h1 := Int.emod_nonneg (cut.tmod ly + ly) (show (ly : Int) ≠ 0 by omega)
    have h2 := Int.emod_lt_of_pos (cut.tmod ly + ly) (show (0 : Int) < ly by omega)
    exact ⟨_, (Int.toNat_of_nonneg h1).symm, by omega⟩
  simp only [hi, hj]
  clear hi hj tx1 tx2 tx3 ty1 ty2 ty3
  obtain ⟨ix, cx, ex, gox, hcx, hlx, _⟩ := putU_form 9 n hfu
  have hix : ix.length + 1 = lx := by have h := HLX.out; rw [← HX.out, show putU (n : Int) = ix ++ [cx] from ex] at h; simpa using h
  obtain ⟨iy, cy, ey, goy, hcy, hly, _⟩ := putS_form 9 m hfs
  have hiy : iy.length + 1 = ly := by have h := HLY.out; rw [← HY.out, show putS m = iy ++ [cy] from ey] at h; simpa using h
  have HRx := Lib.hid (readV_head .u64 mayU natV ix cx i gox hlx (by omega))
  have HRy := Lib.hid (readV_head .i64 mayS sval iy cy j goy hly (by omega))
  rw [show ix ++ [cx] = x from ex.symm.trans HX.out] at HRx
  rw [show iy ++ [cy] = y from ey.symm.trans HY.out] at HRy
  simp only [faultV] at HRx HRy
  have HAx := Lib.hid (show AllB x from HX.out ▸ allU)
  have HAy := Lib.hid (show AllB y from HY.out ▸ allS)
  clear ex ey hlx hly gox goy hcx hcy
  have HB := Lib.hid (Below.trans HB2.out (show Below w.heap.size w2 (w2.drewN nq) from ⟨rfl, rfl, rfl, Nat.le_refl _, fun _ _ => rfl⟩))
  have HSx := Lib.hid (Src.take (show Src (w2.drewN nq) A lx (bys x) from HS2.out) (Nat.le_of_lt hil))
  have HSy := Lib.hid (Src.take (show Src (w2.drewN nq) B ly (bys y) from HT.out) (Nat.le_of_lt hjl))
  clear HS2 HT HB2
  generalize w2.drewN nq = w3 at *
  have hix' : ix.length < lx := by omega
  have hiy' : iy.length < ly := by omega
  clear hix hiy
  have allt : ∀ {l : List Nat} {k : Nat}, AllB l → AllB (l.take k) := fun h c hc => h c (List.mem_of_mem_take hc)
  have HAX := Lib.hid (allt (k := i) HAx.out)
  have HAY := Lib.hid (allt (k := j) HAy.out)
  clear allt HAx HAy
  go_wp2_with fail
  refine (U_any A i ca (x.take i) 0 64 _ HSx.out HAX.out (by omega) (by omega)).mono ?_
  rintro e w4 ⟨rfl, hb⟩
  rw [HRx.out]
  have HT := Lib.hid (HSy.out.below hb (Nat.le_refl _))
  have HB2 := Lib.hid (HB.out.trans (hb.mono HB.out.size))
  clear hb HSx HSy HB
  go_wp2_with fail
  have HF := Lib.hid (FB.new w4 (.int .i64 4) (.int .i64 i) (.int .i64 0))
  have HT2 := Lib.hid (HT.out.below ((Below.refl _ _).alloc (Nat.le_refl _) (.cells #[.int .i64 4, .int .i64 i, .int .i64 0] 28)) (Nat.le_refl _))
  have HB := Lib.hid (HB2.out.alloc HB2.out.size (.cells #[.int .i64 4, .int .i64 i, .int .i64 0] 28))
  clear HT HB2
  refine (S_any B j cb (y.take j) 0 64 _ HT2.out HAY.out (by omega) (by omega)).mono ?_
  rintro e w5 ⟨rfl, hb⟩
  rw [HRy.out]
  obtain ⟨f1, f2, f3⟩ := (HF.out.below hb (Nat.le_refl _)).cells
  have l1 := (HF.out.below hb (Nat.le_refl _)).lt
  have HB2 := Lib.hid (HB.out.trans (hb.mono HB.out.size))
  clear hb HF HT2 HB
  have q1 : ((i : Int) == (i : Int)) = true := by simp
  have q2 : ((j : Int) == (j : Int)) = true := by simp
  go_wp2_with fail
  refine (alive_any _).mono ?_
  rintro e w7 ⟨rfl, hb7⟩
  have HB7 := Lib.hid ((HB2.out.alloc HB2.out.size _).trans (hb7.mono (by have := HB2.out.size; simp; omega)))
  clear hb7
  go_wp2_with fail
  go_ret
  exact ⟨rfl, HB7.out⟩

theorem u64_bounds {a : Int} (h : (Lit.int .u64 a).wf = true) : 0 ≤ a ∧ a < 18446744073709551616 := by
  simp [Lit.wf, IntKind.min, IntKind.max, IntKind.bits, IntKind.signed] at h
  omega
theorem i64_bounds {a : Int} (h : (Lit.int .i64 a).wf = true) : -9223372036854775808 ≤ a ∧ a ≤ 9223372036854775807 := by
  simp [Lit.wf, IntKind.min, IntKind.max, IntKind.bits, IntKind.signed] at h
  omega

theorem heads_walk (a0 : Int) (w0 : (Lit.int .u64 a0).wf = true) (a1 : Int) (w1 : (Lit.int .i64 a1).wf = true) (w : World) :
    Calls Try.prog 7 #[.int .u64 a0, .int .i64 a1] w fun e w' => e = .returned (.bool true) ∧ Below w.heap.size w w' := by
  obtain ⟨h0, h1⟩ := u64_bounds w0
  obtain ⟨h2, h3⟩ := i64_bounds w1
  obtain ⟨n, rfl⟩ := Int.eq_ofNat_of_zero_le h0
  exact heads_any n a1 w (by omega) h2 h3
end Go.Proofs.Ytlfbmpbnmakacaa
