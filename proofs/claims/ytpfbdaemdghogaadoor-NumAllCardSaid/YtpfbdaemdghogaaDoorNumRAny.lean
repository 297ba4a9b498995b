/-
  The reference's Eval answers what the program's Eval answers: evalV, at every operator and all numbers.
  Conditions: the numbers are of 64 bits.
-/
import Derived.Test.YtpfbdaemdghogaaDoorNumREv1
import Derived.Test.YtpfbdaemdghogaaDoorNumREv2
import Derived.Test.YtpfbdaemdghogaaDoorNumREv3
import Derived.Test.YtpfbdaemdghogaaDoorNumREv4
import Derived.Test.YtpfbdaemdghogaaDoorNumREv5
import Derived.Test.YtpfbdaemdghogaaDoorNumREv6
import Derived.Test.YtpfbdaemdghogaaDoorNumREv7
import Derived.Test.YtpfbdaemdghogaaDoorNumREv8
import Derived.Test.YtpfbdaemdghogaaDoorNumREv9
import Derived.Test.YtpfbdaemdghogaaDoorNumREv10
import Derived.Test.YtpfbdaemdghogaaDoorNumREv11
import Derived.Test.YtpfbdaemdghogaaDoorNumREv12
namespace Go.Proofs.YtpfbdaemdghogaaDoor
open Go.RowKit Go.Bk Go.Bk.Num
set_option linter.unusedVariables false
set_option linter.unusedSimpArgs false
theorem all_fits_snoc {d : Int} {l : List Nat} {k : Nat} (h : (l.take k).all (fitsN d) = true) (hk : k < l.length) (hf : fitsN d l[k] = true) : (l.take (k + 1)).all (fitsN d) = true := by
  rw [List.take_succ_eq_append_getElem hk, List.all_append, h]; simp [hf]
set_option maxRecDepth 100000 in
set_option maxHeartbeats 4000000 in
theorem reval_bad (op a b c d : Int) (A : Option Addr) (n cp : Nat) (l : List Nat) (w : World) (hg : grpOf op = some (a, b, c, d)) (hs : Bk.Src w A n (u64V l)) (h64 : All64 l) (hne : (sigL op).length = n) (hbad : l.all (fitsN d) = false) :
    Calls Tryd.prog 11 #[.int .i64 op, .slice A n cp] w (EvPost (0, 1) w) := by
  have hln : l.length = n := by have := hs.1; simpa [u64V] using this
  have hnn : ∀ k, k < n → (sigL op)[k]? = some d := by
    intro k hk
    revert hne
    simp only [sigL, hg]
    split
    · intro hne; simp at hne; rcases (show k = 0 ∨ k = 1 by omega) with rfl | rfl <;> rfl
    · intro hne; simp at hne; rcases (show k = 0 by omega) with rfl; rfl
  have hn0 : 0 < n := by
    revert hne
    simp only [sigL, hg]
    split <;> (intro hne; simp at hne; omega)
  have hn2 : n ≤ 2 := by
    revert hne
    simp only [sigL, hg]
    split <;> (intro hne; simp at hne; omega)
  have HI := Lib.hid (show (grpOf op).isSome = true by simp [hg])
  have HNE := Lib.hid hne
  obtain ⟨ab, ao, rfl, hab⟩ := hs.addr hn0
  have HS := Lib.hid hs
  have HNN := Lib.hid hnn
  have HBAD := Lib.hid hbad
  have HLN := Lib.hid hln
  have H64 := Lib.hid h64
  clear hg hs hne hnn hbad hln h64
  go_enter Tryd.func11, Tryd.ntmps11
  go_wp2_with fail
  refine (RSig_any op _).mono ?_
  rintro e w1 ⟨A2, c2, rfl, ho2, hb1⟩
  rw [HI.out, HNE.out]
  rw [HNE.out] at ho2
  obtain ⟨g2, c2', e, hgl, hge, _⟩ := own_at ho2 (by omega)
  injection e with e1 e2 e3
  subst e1
  subst e3
  have hz : w.heap.size ≤ w1.heap.size := hb1.size
  have hge' : g2 < w1.heap.size := hgl
  have HB1 := Lib.hid hb1
  have ha1 : ab < w1.heap.size := by omega
  have HLV := Lib.hid (show ∀ k, k < n → ∃ v : Nat, l[k]? = some v ∧ w1.cell? ⟨ab, ao + k, none⟩ = some (.int .u64 v) ∧ w1.cell? ⟨g2, k, none⟩ = some (.int .i64 d) from by
    intro k hk
    have hkl : k < l.length := by rw [HLN.out]; exact hk
    refine ⟨l[k], List.getElem?_eq_getElem hkl, ?_, ?_⟩
    · have := (HS.out.below hb1 (Nat.le_refl _)).at_ (k := k) hk
      simpa [u64V] using this
    · have := ho2.cells (g := g2) rfl k (.int .i64 d) (by simp [intsV, List.getElem?_map, HNN.out k hk])
      rwa [Addr.add_lit, Nat.zero_add] at this)
  clear ho2 hb1 HS HNN
  go_wp2_with fail
  go_loopw [9] (fun i wr => ∃ k : Nat, k ≤ n ∧ i = .int .i64 k ∧ Hid ((l.take k).all (fitsN d) = true) ∧ Hid (Below w1.heap.size w1 wr)) (fun i _ => n + 1 - (intOf i).toNat)
  case atStart => exact ⟨0, by omega, rfl, Lib.hid rfl, Lib.hid (Below.refl _ _)⟩
  case round =>
    rename_i wr
    obtain ⟨k, hk', rfl, HA, HBR⟩ := hrel
    by_cases hlt : k < n
    · obtain ⟨v, hv0, hv1, hv3⟩ := HLV.out k hlt
      have hlt' : decide ((k : Int) < n) = true := by simp; omega
      have hlt2 : (k : Int) < n := by omega
      have hv1' := (HBR.out.cell (p := ⟨ab, ao + k, none⟩) ha1).trans hv1
      have hv3' := (HBR.out.cell (p := ⟨g2, k, none⟩) hge').trans hv3
      have HV0 := Lib.hid hv0
      clear hv0 hv1 hv3
      have HBW := Lib.hid (HB1.out.trans (HBR.out.mono hz))
      cases hf : fitsN d v with
      | true =>
        have HF := Lib.hid hf
        clear hf
        go_wp2_with fail
        go_quiet ((go_at_call 16; exact Calls.quiet_of_same ((RFits_any d v _).mono fun _ _ ⟨h1, h2⟩ => ⟨h1.trans (by rw [HF.out]), h2.symm⟩)))
        go_wp2
        exact ⟨⟨k + 1, by omega, by simp, Lib.hid (all_fits_snoc HA.out (by rw [HLN.out]; exact hlt) (by have := HV0.out; obtain ⟨hk1, hk2⟩ := List.getElem?_eq_some_iff.1 this; rw [hk2]; exact HF.out)), Lib.hid (below_drewN HBR.out _)⟩, by simp [intOf]; omega⟩
      | false =>
        have HF := Lib.hid hf
        clear hf
        go_wp2_with fail
        go_quiet ((go_at_call 16; exact Calls.quiet_of_same ((RFits_any d v _).mono fun _ _ ⟨h1, h2⟩ => ⟨h1.trans (by rw [HF.out]), h2.symm⟩)))
        go_wp2
        go_ret2
        exact ⟨rfl, below_drewN HBW.out _⟩
    · exfalso
      have := HA.out
      rw [List.take_of_length_le (by rw [HLN.out]; omega), HBAD.out] at this
      cases this

set_option maxHeartbeats 2000000 in
theorem reval_any (op : Int) (A : Option Addr) (n cp : Nat) (l : List Nat) (w : World) (hs : Bk.Src w A n (u64V l)) (h64 : All64 l) :
    Calls Tryd.prog 11 #[.int .i64 op, .slice A n cp] w (EvPost (evalV op l) w) := by
  have hln : l.length = n := by have := hs.1; simpa [u64V] using this
  cases hg : grpOf op with
  | none => exact reval_none op A n cp l w hg
  | some g =>
    obtain ⟨a, b, c, d⟩ := g
    by_cases hne : (sigL op).length = n
    · cases hbad : l.all (fitsN d) with
      | false =>
        have e : evalV op l = (0, 1) := by simp [evalV, hg, hbad]
        rw [e]
        exact reval_bad op a b c d A n cp l w hg hs h64 hne hbad
      | true =>
        have e : evalV op l = kindV c d (op - a) (sigO op) l := by simp [evalV, hg, hbad, hln, hne]
        rw [e]
        clear e
        rcases grp_cases op with ⟨hq, z3, z4, z5, z6, z7⟩ | ⟨hq, z3, z4⟩ | ⟨hq, z3, z4⟩ | ⟨hq, z3, z4⟩ | ⟨hq, z3, z4⟩ | ⟨hq, z3, z4⟩ | ⟨hq, z3, z4⟩ | ⟨hq, z3, z4⟩ | ⟨hq, z3, z4⟩ | ⟨hq, z3, z4⟩ | ⟨hq, z3, z4⟩ | ⟨hq, z3, z4⟩ | ⟨hq, z3, z4⟩
        · rw [hq] at hg; cases hg
        · rw [hq] at hg
          simp only [Option.some.injEq, Prod.mk.injEq] at hg
          obtain ⟨rfl, rfl, rfl, rfl⟩ := hg
          have h1 : n = 1 := by rw [← hne]; simp [sigL, hq]
          subst h1
          obtain ⟨x, rfl⟩ : ∃ x, l = [x] := by
            match l, hln with
            | [x], _ => exact ⟨x, rfl⟩
          have hx := h64 x (by simp)
          have hx' : x < 4294967296 := by have := hbad; simpa [fitsN] using this
          obtain ⟨kn, hkn⟩ := Int.eq_ofNat_of_zero_le (show 0 ≤ op - 69 by omega)
          have := reval_69 op kn (by omega) (by omega) x hx' A cp w hs
          rw [hkn]
          simpa [kindV] using this
        · rw [hq] at hg
          simp only [Option.some.injEq, Prod.mk.injEq] at hg
          obtain ⟨rfl, rfl, rfl, rfl⟩ := hg
          have h2 : n = 2 := by rw [← hne]; simp [sigL, hq]
          subst h2
          obtain ⟨x, y, rfl⟩ : ∃ x y, l = [x, y] := by
            match l, hln with
            | [x, y], _ => exact ⟨x, y, rfl⟩
          have hx := h64 x (by simp)
          have hy := h64 y (by simp)
          have hx' : x < 4294967296 := by have := hbad; simp [fitsN] at this; exact this.1
          have hy' : y < 4294967296 := by have := hbad; simp [fitsN] at this; exact this.2
          obtain ⟨kn, hkn⟩ := Int.eq_ofNat_of_zero_le (show 0 ≤ op - 70 by omega)
          have := reval_70 op kn (by omega) (by omega) x y hx' hy' A cp w hs
          rw [hkn]
          simpa [kindV, twoV] using this
        · rw [hq] at hg
          simp only [Option.some.injEq, Prod.mk.injEq] at hg
          obtain ⟨rfl, rfl, rfl, rfl⟩ := hg
          have h1 : n = 1 := by rw [← hne]; simp [sigL, hq]
          subst h1
          obtain ⟨x, rfl⟩ : ∃ x, l = [x] := by
            match l, hln with
            | [x], _ => exact ⟨x, rfl⟩
          have hx := h64 x (by simp)
          obtain ⟨kn, hkn⟩ := Int.eq_ofNat_of_zero_le (show 0 ≤ op - 80 by omega)
          have := reval_80 op kn (by omega) (by omega) x hx A cp w hs
          rw [hkn]
          simpa [kindV] using this
        · rw [hq] at hg
          simp only [Option.some.injEq, Prod.mk.injEq] at hg
          obtain ⟨rfl, rfl, rfl, rfl⟩ := hg
          have h2 : n = 2 := by rw [← hne]; simp [sigL, hq]
          subst h2
          obtain ⟨x, y, rfl⟩ : ∃ x y, l = [x, y] := by
            match l, hln with
            | [x, y], _ => exact ⟨x, y, rfl⟩
          have hx := h64 x (by simp)
          have hy := h64 y (by simp)
          obtain ⟨kn, hkn⟩ := Int.eq_ofNat_of_zero_le (show 0 ≤ op - 81 by omega)
          have := reval_81 op kn (by omega) (by omega) x y hx hy A cp w hs
          rw [hkn]
          simpa [kindV, twoV] using this
        · rw [hq] at hg
          simp only [Option.some.injEq, Prod.mk.injEq] at hg
          obtain ⟨rfl, rfl, rfl, rfl⟩ := hg
          have h1 : n = 1 := by rw [← hne]; simp [sigL, hq]
          subst h1
          obtain ⟨x, rfl⟩ : ∃ x, l = [x] := by
            match l, hln with
            | [x], _ => exact ⟨x, rfl⟩
          have hx := h64 x (by simp)
          have hx' : x < 4294967296 := by have := hbad; simpa [fitsN] using this
          obtain ⟨kn, hkn⟩ := Int.eq_ofNat_of_zero_le (show 0 ≤ op - 103 by omega)
          have := reval_103 op kn (by omega) (by omega) x hx' A cp w hs
          rw [hkn]
          simpa [kindV] using this
        · rw [hq] at hg
          simp only [Option.some.injEq, Prod.mk.injEq] at hg
          obtain ⟨rfl, rfl, rfl, rfl⟩ := hg
          have h2 : n = 2 := by rw [← hne]; simp [sigL, hq]
          subst h2
          obtain ⟨x, y, rfl⟩ : ∃ x y, l = [x, y] := by
            match l, hln with
            | [x, y], _ => exact ⟨x, y, rfl⟩
          have hx := h64 x (by simp)
          have hy := h64 y (by simp)
          have hx' : x < 4294967296 := by have := hbad; simp [fitsN] at this; exact this.1
          have hy' : y < 4294967296 := by have := hbad; simp [fitsN] at this; exact this.2
          obtain ⟨kn, hkn⟩ := Int.eq_ofNat_of_zero_le (show 0 ≤ op - 106 by omega)
          have := reval_106 op kn (by omega) (by omega) x y hx' hy' A cp w hs
          rw [hkn]
          simpa [kindV] using this
        · rw [hq] at hg
          simp only [Option.some.injEq, Prod.mk.injEq] at hg
          obtain ⟨rfl, rfl, rfl, rfl⟩ := hg
          have h1 : n = 1 := by rw [← hne]; simp [sigL, hq]
          subst h1
          obtain ⟨x, rfl⟩ : ∃ x, l = [x] := by
            match l, hln with
            | [x], _ => exact ⟨x, rfl⟩
          have hx := h64 x (by simp)
          obtain ⟨kn, hkn⟩ := Int.eq_ofNat_of_zero_le (show 0 ≤ op - 121 by omega)
          have := reval_121 op kn (by omega) (by omega) x hx A cp w hs
          rw [hkn]
          simpa [kindV] using this
        · rw [hq] at hg
          simp only [Option.some.injEq, Prod.mk.injEq] at hg
          obtain ⟨rfl, rfl, rfl, rfl⟩ := hg
          have h2 : n = 2 := by rw [← hne]; simp [sigL, hq]
          subst h2
          obtain ⟨x, y, rfl⟩ : ∃ x y, l = [x, y] := by
            match l, hln with
            | [x, y], _ => exact ⟨x, y, rfl⟩
          have hx := h64 x (by simp)
          have hy := h64 y (by simp)
          obtain ⟨kn, hkn⟩ := Int.eq_ofNat_of_zero_le (show 0 ≤ op - 124 by omega)
          have := reval_124 op kn (by omega) (by omega) x y hx hy A cp w hs
          rw [hkn]
          simpa [kindV] using this
        · rw [hq] at hg
          simp only [Option.some.injEq, Prod.mk.injEq] at hg
          obtain ⟨rfl, rfl, rfl, rfl⟩ := hg
          have h1 : n = 1 := by rw [← hne]; simp [sigL, hq]
          subst h1
          obtain ⟨x, rfl⟩ : ∃ x, l = [x] := by
            match l, hln with
            | [x], _ => exact ⟨x, rfl⟩
          have hx := h64 x (by simp)
          obtain ⟨kn, hkn⟩ := Int.eq_ofNat_of_zero_le (show 0 ≤ op - 167 by omega)
          have := reval_167 op kn (by omega) (by omega) x hx A cp w hs
          rw [hkn]
          simpa [kindV] using this
        · rw [hq] at hg
          simp only [Option.some.injEq, Prod.mk.injEq] at hg
          obtain ⟨rfl, rfl, rfl, rfl⟩ := hg
          have h1 : n = 1 := by rw [← hne]; simp [sigL, hq]
          subst h1
          obtain ⟨x, rfl⟩ : ∃ x, l = [x] := by
            match l, hln with
            | [x], _ => exact ⟨x, rfl⟩
          have hx := h64 x (by simp)
          have hx' : x < 4294967296 := by have := hbad; simpa [fitsN] using this
          rcases (show op = 172 ∨ op = 173 by omega) with rfl | rfl
          · have := reval_172 x hx' A cp w hs
            simpa [kindV, widV] using this
          · have := reval_173 x hx' A cp w hs
            simpa [kindV, widV] using this
        · rw [hq] at hg
          simp only [Option.some.injEq, Prod.mk.injEq] at hg
          obtain ⟨rfl, rfl, rfl, rfl⟩ := hg
          have h1 : n = 1 := by rw [← hne]; simp [sigL, hq]
          subst h1
          obtain ⟨x, rfl⟩ : ∃ x, l = [x] := by
            match l, hln with
            | [x], _ => exact ⟨x, rfl⟩
          have hx := h64 x (by simp)
          have hx' : x < 4294967296 := by have := hbad; simpa [fitsN] using this
          rcases (show op = 192 ∨ op = 193 by omega) with rfl | rfl
          · have := reval_192 x hx' A cp w hs
            simpa [kindV, show sigO 192 = 127 from by decide +kernel] using this
          · have := reval_193 x hx' A cp w hs
            simpa [kindV, show sigO 193 = 127 from by decide +kernel] using this
        · rw [hq] at hg
          simp only [Option.some.injEq, Prod.mk.injEq] at hg
          obtain ⟨rfl, rfl, rfl, rfl⟩ := hg
          have h1 : n = 1 := by rw [← hne]; simp [sigL, hq]
          subst h1
          obtain ⟨x, rfl⟩ : ∃ x, l = [x] := by
            match l, hln with
            | [x], _ => exact ⟨x, rfl⟩
          have hx := h64 x (by simp)
          rcases (show op = 194 ∨ op = 195 ∨ op = 196 by omega) with rfl | rfl | rfl
          · have := reval_194 x hx A cp w hs
            simpa [kindV, show sigO 194 = 126 from by decide +kernel] using this
          · have := reval_195 x hx A cp w hs
            simpa [kindV, show sigO 195 = 126 from by decide +kernel] using this
          · have := reval_196 x hx A cp w hs
            simpa [kindV, show sigO 196 = 126 from by decide +kernel] using this
    · exact reval_len op a b c d A n cp l w hg hln hne
end Go.Proofs.YtpfbdaemdghogaaDoor
