/-
  MovesLeave: what the statement's function answers.
  Conditions: the rows are within the row's own reach.
-/
import Derived.Test.YtbnfhcdodejmhaaMovLaw2
import Derived.Test.YtbnfhcdodejmhaaMovSem
import Derived.Test.YtbnfhcdodejmhaaZeros
namespace Go.Proofs.Ytbnfhcdodejmhaa
open Go.RowKit Go.Bk Go.Bk.Mov
set_option linter.unusedVariables false
set_option linter.unusedSimpArgs false

theorem u64W_rep (k : Nat) : List.replicate k (Value.int .u64 0) = u64W (List.replicate k 0) := by simp [u64W]
theorem u64W_app (a b : List Nat) : u64W a ++ u64W b = u64W (a ++ b) := by simp [u64W]
theorem wrapNat (z : Int) : ∃ v : Nat, IntKind.u64.wrap z = (v : Int) := ⟨(IntKind.u64.wrap z).toNat, by rw [IntKind.wrap_u64]; omega⟩

set_option maxRecDepth 100000 in
set_option maxHeartbeats 8000000 in
theorem MovesLeave_true (w : World) (A : Option Addr) (n c : Nat) (l : List Mv) (hs : MvIn w A n c l) (hr : c * Try.prog.bytesOf 38 ≤ reachBytes) (spare : Int) (hsp : (Lit.int .i64 spare).wf = true)
    (B : Option Addr) (m d : Nat) (zs : List Int) (hz : RowIn .u64 w B m d zs) (hr2 : d * Try.prog.bytesOf 34 ≤ reachBytes) :
    Calls Try.prog 6 #[.slice A n c, .int .i64 spare, .slice B m d] w fun e w' => e = .returned (.bool true) ∧ Below w.heap.size w w' := by
  have hn := mv_bound hs hr
  have hl := hs.len
  obtain ⟨h, hh, _, hhl, hm, hB⟩ := rowInW hz hr2
  have HS := Lib.hid hs.1
  have HL := Lib.hid hl
  have HH := Lib.hid hh
  have HHL := Lib.hid hhl
  clear hs hr hsp hl hz hr2 hh hB hhl
  go_enter Try.func6, Try.ntmps6
  go_wp2_with fail
  refine (Row_any A n c l spare _ HS.out (by omega)).mono ?_
  rintro e w1 (⟨hf, rfl, hb1⟩ | ⟨hf, kk, A1, c1, rfl, ho1, hk, hb1⟩)
  · have HB1 := Lib.hid hb1
    clear hf hb1
    go_wp2_with fail
    refine (alive_any _).mono ?_
    rintro e w5 ⟨rfl, hb5⟩
    have HB5 := Lib.hid (HB1.out.trans (hb5.mono HB1.out.size))
    clear hb5
    go_wp2
    go_ret
    exact ⟨rfl, HB5.out⟩
  · obtain ⟨f1, f2, f3, f4⟩ := fits_spare hf
    have HRP := Lib.hid f1
    have HF2 := Lib.hid f2
    have HF3 := Lib.hid f3
    have HF4 := Lib.hid f4
    have HRO := Lib.hid hk
    have HK1 := Lib.hid (src_mv ho1)
    have HB1 := Lib.hid hb1
    obtain ⟨kl, hkl2⟩ : ∃ q, kk.length = q := ⟨_, rfl⟩
    rw [hkl2] at HK1 ⊢
    have hklm : kl ≤ 9223372036854775807 := by rw [← hkl2]; exact own_max ho1
    have HS1 := Lib.hid (HS.out.below hb1 (Nat.le_refl _))
    have HH1 := Lib.hid (HH.out.below hb1 (Nat.le_refl _))
    clear hf ho1 hk hb1 hkl2 f1 f2 f3 f4
    by_cases hbig : 4096 < m
    · have hbig' : decide ((4096 : Int) < m) = true := by simp; omega
      go_wp2_with fail
      refine (alive_any _).mono ?_
      rintro e w5 ⟨rfl, hb5⟩
      have HB5 := Lib.hid (HB1.out.trans (hb5.mono HB1.out.size))
      clear hb5
      go_wp2
      go_ret
      exact ⟨rfl, HB5.out⟩
    · have hbig' : decide ((4096 : Int) < m) = false := by simp; omega
      go_wp2_with (at_builtin; refine append_copy _ rfl _ (.tmp 26) 26 rfl 34 (.int .u64 0) 8 Try.underlying26 info_u64 rfl rfl B m d (u64W h) rfl HH1.out (u64W_one h) (by unfold maxLen; omega) (by omega) ?_)
      rintro v2 w2 ho2 hb2
      have HO2 := Lib.hid ho2
      have HB2 := Lib.hid hb2
      have hz2 := hb2.size
      clear ho2 hb2
      go_wp2_with (at_builtin; refine append_zeros _ rfl _ (.tmp 30) 26 3 rfl w1.heap.size 34 (.int .u64 0) 8 .i64 Try.underlying26 Try.underlying3 info_u64 rfl rfl _ m (u64W h) rfl HO2.out .i64 (4096 - m) _ (by omega) rfl (by unfold maxLen; omega) (by omega) (by omega) ?_)
      rintro v3 w3 ho3 hb3
      rw [u64W_rep, u64W_app, show m + (4096 - m) = 4096 by omega] at ho3
      have hl3 : (h ++ List.replicate (4096 - m) 0).length = 4096 := by simp [HHL.out]; omega
      obtain ⟨h3, hh3⟩ : ∃ h3, h ++ List.replicate (4096 - m) 0 = h3 := ⟨_, rfl⟩
      rw [hh3] at ho3 hl3
      obtain ⟨A3, c3, hv3, _⟩ := own_shape ho3
      subst hv3
      obtain ⟨g3, c3', e, hgl3, hge3, _⟩ := own_at ho3 (by omega)
      injection e with e1 e2 e3
      subst e1
      subst e3
      have HO3 := Lib.hid ho3
      have HL3 := Lib.hid hl3
      have HB3 := Lib.hid (HB2.out.trans hb3)
      clear ho3 hb3 hh3 hl3 HO2 HB2
      go_wp2
      go_loopw [34] (fun i wr => ∃ (k : Nat) (h' : List Nat), k ≤ 4096 ∧ i = .int .i64 k ∧ Hid (h'.length = 4096) ∧ Hid (wr.ownsRow w1.heap.size 34 1 (.slice (some ⟨g3, 0, none⟩) 4096 c3) 4096 (u64W h')) ∧ Hid (Below w1.heap.size w1 wr)) (fun i _ => 4096 - (intOf i).toNat)
      case atStart => exact ⟨0, h3, by omega, rfl, HL3, HO3, HB3⟩
      case round =>
        obtain ⟨wo, rfl⟩ : ∃ wo : World, wo = wr := ⟨_, rfl⟩
        obtain ⟨k, h', hk, rfl, IL, iO, IB⟩ := hrel
        clear HO3 HL3 HB3
        by_cases hlt : k < 4096
        · have hlt' : decide ((k : Int) < 4096) = true := by simp; omega
          have hlt2 : (k : Int) < 4096 := by omega
          have x0 := (Bk.Src.of_own iO.out).at_ (k := k) hlt
          rw [u64W_at (by rw [IL.out]; exact hlt)] at x0
          simp only [Nat.zero_add] at x0
          have x2 : wo.frozen? ⟨g3, k, none⟩ = false := own_frozen iO.out
          obtain ⟨xv, hxv⟩ : ∃ xv, h'.getD k 0 = xv := ⟨_, rfl⟩
          rw [hxv] at x0
          clear hxv
          go_wp2
          refine ⟨?_, by simp [intOf]; omega⟩
          obtain ⟨vv, hvv⟩ := wrapNat ((xv : Int) + (k : Int))
          rw [hvv]
          exact ⟨k + 1, h'.set k vv, by omega, by simp, Lib.hid (by rw [List.length_set]; exact IL.out), Lib.hid (own_store iO.out vv), Lib.hid (IB.out.setCell (p := ⟨g3, k, none⟩) hge3 _)⟩
        · have hlt' : decide ((k : Int) < 4096) = false := by simp; omega
          have HSH := Lib.hid (Bk.Src.of_own iO.out)
          have hz0 := IB.out.size
          have hz00 := HB1.out.size
          obtain ⟨nn, hSI⟩ := HRO.out
          have hDl : (doL kk h').length = 4096 := by rw [doL_len]; exact IL.out
          have hAl : (atL l h').length = 4096 := by rw [atL_len]; exact IL.out
          have HDL := Lib.hid hDl
          have HAL := Lib.hid hAl
          have hpl : ∀ x, isPlB x = true → 0 ≤ x ∧ x < ((4096 : Nat) : Int) := fun x hx => of_decide_eq_true hx
          have HLV := Lib.hid (leaves hSI HRP.out.fn HF2.out HF3.out IL.out (fun p hp => decide_eq_true ⟨(hpl _ (HRP.out.2.1 p hp).1).1, (hpl _ (HRP.out.2.1 p hp).1).2, (hpl _ (HRP.out.2.1 p hp).2).1, (hpl _ (HRP.out.2.1 p hp).2).2⟩) (hpl _ HF4.out))
          clear hSI hDl hAl hpl
          go_wp2_with fail
          refine (RDo_any A1 (some ⟨g3, 0, none⟩) kl c1 4096 c3 kk h' _ (HK1.out.below IB.out (Nat.le_refl _)) hklm HSH.out (by omega)).mono ?_
          rintro e w5 ⟨A5, c5, rfl, ho5, hb5⟩
          rw [HDL.out] at ho5 ⊢
          have HO5 := Lib.hid (Bk.Src.of_own ho5)
          have HB5 := Lib.hid (IB.out.trans (hb5.mono IB.out.size))
          have HSH5 := Lib.hid (HSH.out.below hb5 (Nat.le_refl _))
          clear ho5 hb5
          go_wp2_with fail
          refine (RAt_any A (some ⟨g3, 0, none⟩) n c 4096 c3 l h' _ (HS1.out.below HB5.out (Nat.le_refl _)) (by omega) HSH5.out (by omega)).mono ?_
          rintro e w6 ⟨A6, c6, rfl, ho6, hb6⟩
          rw [HAL.out] at ho6 ⊢
          have HO6 := Lib.hid (Bk.Src.of_own ho6)
          have HO5' := Lib.hid (HO5.out.below hb6 (Nat.le_refl _))
          have HB6 := Lib.hid (HB5.out.trans (hb6.mono HB5.out.size))
          clear ho6 hb6
          obtain ⟨b5, o5, rfl, hb5l⟩ := HO5'.out.addr (by omega)
          obtain ⟨b6, o6, rfl, hb6l⟩ := HO6.out.addr (by omega)
          have HX := Lib.hid (show ∀ q, q < 4096 → ∃ x y : Nat, w6.cell? ⟨b5, o5 + q, none⟩ = some (.int .u64 x) ∧ w6.cell? ⟨b6, o6 + q, none⟩ = some (.int .u64 y) ∧ ((q : Int) ≠ spare → x = y) from fun q hq => by
            have h1 := HO5'.out.at_ hq
            have h2 := HO6.out.at_ hq
            rw [u64W_at (by rw [HDL.out]; exact hq)] at h1
            rw [u64W_at (by rw [HAL.out]; exact hq)] at h2
            exact ⟨_, _, h1, h2, HLV.out q hq⟩)
          go_wp2
          go_loopw [54] (fun i wr => ∃ j : Nat, j ≤ 4096 ∧ i = .int .i64 j ∧ Hid (Below w6.heap.size w6 wr)) (fun i _ => 4096 - (intOf i).toNat)
          case atStart => exact ⟨0, by omega, rfl, Lib.hid (Below.refl _ _)⟩
          case round =>
            obtain ⟨wi, rfl⟩ : ∃ wi : World, wi = wr := ⟨_, rfl⟩
            obtain ⟨j, hj, rfl, IBI⟩ := hrel
            by_cases hjl : j < 4096
            · have hjl' : decide ((j : Int) < 4096) = true := by simp; omega
              have hjl2 : (j : Int) < 4096 := by omega
              obtain ⟨x, y, y1, y2, y3⟩ := HX.out j hjl
              have y1' := (IBI.out.cell (p := ⟨b5, o5 + j, none⟩) hb5l).trans y1
              have y2' := (IBI.out.cell (p := ⟨b6, o6 + j, none⟩) hb6l).trans y2
              clear y1 y2
              by_cases hjs : (j : Int) = spare
              · have hjs' : ((j : Int) != spare) = false := by simp [hjs]
                clear hjs y3
                go_wp2_with fail
                go_quiet (fail)
                go_wp2
                exact ⟨⟨j + 1, by omega, by simp, Lib.hid (below_drewN IBI.out _)⟩, by simp [intOf]; omega⟩
              · have hjs' : ((j : Int) != spare) = true := by simp [hjs]
                have hxy := y3 hjs
                subst hxy
                have hxx : ((x : Int) != x) = false := by simp
                clear hjs y3
                go_wp2_with fail
                go_quiet (fail)
                go_wp2
                exact ⟨⟨j + 1, by omega, by simp, Lib.hid (below_drewN IBI.out _)⟩, by simp [intOf]; omega⟩
            · have hjl' : decide ((j : Int) < 4096) = false := by simp; omega
              go_wp2_with fail
              refine (alive_any _).mono ?_
              rintro e w7 ⟨rfl, hb7⟩
              have HB7 := Lib.hid (HB1.out.trans ((HB6.out.trans ((IBI.out.trans (hb7.mono IBI.out.size)).mono HB6.out.size)).mono HB1.out.size))
              clear hb7
              go_wp2
              go_ret
              exact ⟨rfl, HB7.out⟩
end Go.Proofs.Ytbnfhcdodejmhaa
