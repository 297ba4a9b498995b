/-
 Lists of places: slices.Contains, lower.within, lower.unlike.
 Conditions: as each says.
-/
import Derived.Test.YtgmapikcpnffhaaGreatLShape
namespace Go.Proofs.YtgmapikcpnffhaaGreat
open Go.RowKit Go.Bk Go.Bk.Liv
set_option linter.unusedVariables false
set_option linter.unusedSimpArgs false

theorem not_mem_next {l : List Int} {k : Nat} {p x : Int} (h : l[k]? = some p) (h1 : x ∉ l.take k) (h2 : p ≠ x) : x ∉ l.take (k + 1) := by
 obtain ⟨hk', e⟩ := List.getElem?_eq_some_iff.1 h
 rw [List.take_succ_eq_append_getElem hk', e, List.mem_append]
 rintro (h | h)
 ·exact h1 h
 ·simp at h; exact h2 h.symm
set_option maxHeartbeats 1000000 in
theorem Index_any (v : Value) (l : List Int) (x : Int) (w : World) (hs : IR w v l) (hm : l.length ≤ 9223372036854775807) :
  Calls Tryz.prog 102 #[v, .int .i64 x] w fun e w' => ∃ r : Int, e = .returned (.int .i64 r) ∧ decide (0 ≤ r) = decide (x ∈ l) ∧ w = w' := by
 obtain ⟨A, c, rfl⟩ := hs.shape
 have HS := Lib.hid hs
 clear hs
 go_enter Tryz.func102, Tryz.ntmps102
 go_wp2
 go_loopw [8] (fun i wr => ∃ k : Nat, k ≤ l.length ∧ i = .int .i64 k ∧ Hid (x ∉ l.take k) ∧ Hid (w = wr)) (fun i _ => l.length - (intOf i).toNat)
 case atStart => exact ⟨0, by omega, rfl, Lib.hid (by simp), Lib.hid rfl⟩
 case round =>
  obtain ⟨k, hk, rfl, IA, IB⟩ := hrel
  obtain rfl := IB.out
  clear IB
  by_cases hlt : k < l.length
  ·have hlt2 : (k : Int) < (l.length : Int) := by omega
   obtain ⟨y, hy⟩ : ∃ y, l[k]? = some y := ⟨_, List.getElem?_eq_getElem hlt⟩
   obtain ⟨ab, ao, rfl, hab, hcl⟩ := HS.out.cell hy
   have HY := Lib.hid hy
   clear hy
   by_cases he : x = y
   ·subst he
    have HM := Lib.hid (List.mem_of_getElem? HY.out)
    have he' : (x == x) = true := by simp
    go_wp2
    go_ret
    exact ⟨k, rfl, by rw [decide_eq_true HM.out]; simp, rfl⟩
   ·have he' : (x == y) = false := by simp [he]
    have HN := Lib.hid (not_mem_next HY.out IA.out (fun e => he e.symm))
    clear he
    go_wp2
    exact ⟨⟨k + 1, by omega, by simp, HN, Lib.hid (by trivial)⟩, by simp [intOf]; omega⟩
  ·have hlt' : ¬ k < l.length := hlt
   have HN := Lib.hid (show x ∉ l by have := IA.out; rwa [List.take_of_length_le (by omega)] at this)
   go_wp2
   go_ret
   exact ⟨-1, rfl, by rw [decide_eq_false HN.out]; rfl, rfl⟩
theorem Contains_any (v : Value) (l : List Int) (x : Int) (w : World) (hs : IR w v l) (hm : l.length ≤ 9223372036854775807) :
  Calls Tryz.prog 66 #[v, .int .i64 x] w fun e w' => e = .returned (.bool (decide (x ∈ l))) ∧ w = w' := by
 obtain ⟨A, c, rfl⟩ := hs.shape
 have HS := Lib.hid hs
 clear hs
 go_enter Tryz.func66, Tryz.ntmps66
 go_wp2_with fail
 refine (Index_any _ l x _ HS.out hm).mono ?_
 rintro e w1 ⟨r, rfl, hr, rfl⟩
 have HR := Lib.hid hr
 clear hr
 go_wp2
 go_ret
 exact ⟨by rw [← HR.out]; rfl, rfl⟩

def outB (n x : Int) : Bool := !decide (0 ≤ x ∧ x < n)
theorem within1_any (n x : Int) (b : Nat) (w : World) (hc : w.cell? ⟨b, 0, none⟩ = some (.int .i64 n)) : Calls Tryz.prog 99 #[.int .i64 x, .pointer (some ⟨b, 0, none⟩)] w fun e w' => e = .returned (.bool (outB n x)) ∧ Below w.heap.size w w' := by
 by_cases h1 : x < 0
 ·have h1' : decide (x < 0) = true := by simpa using h1
  have HE := Lib.hid (show outB n x = true by simp [outB]; omega)
  go_enter Tryz.func99, Tryz.ntmps99
  go_wp2
  go_ret
  exact ⟨by rw [HE.out]; rfl, Below.refl _ _⟩
 ·have h1' : decide (x < 0) = false := by simpa using h1
  by_cases h2 : n ≤ x
  ·have h2' : decide (n ≤ x) = true := by simpa using h2
   have HE := Lib.hid (show outB n x = true by simp [outB]; omega)
   go_enter Tryz.func99, Tryz.ntmps99
   go_wp2
   go_ret
   exact ⟨by rw [HE.out]; rfl, Below.refl _ _⟩
  ·have h2' : decide (n ≤ x) = false := by simpa using h2
   have HE := Lib.hid (show outB n x = false by simp [outB]; omega)
   go_enter Tryz.func99, Tryz.ntmps99
   go_wp2
   go_ret
   exact ⟨by rw [HE.out]; rfl, Below.refl _ _⟩
theorem within_any (n : Int) (v : Value) (l : List Int) (w : World) (hs : IR w v l) (hm : l.length ≤ 9223372036854775807) :
  Calls Tryz.prog 61 #[.int .i64 n, v] w fun e w' => e = .returned (.bool (within n l)) ∧ Below w.heap.size w w' := by
 obtain ⟨A, c, rfl⟩ := hs.shape
 have B0 := Lib.hid (show Below w.heap.size w (w.alloc (.cells #[.int .i64 n] 3)) from (Below.refl _ _).alloc (Nat.le_refl _) _)
 have HS := Lib.hid (hs.below B0.out (Nat.le_refl _))
 have K0 := Lib.hid (Blk.new w 3 #[.int .i64 n])
 have HE := Lib.hid (show within n l = !(l.any (outB n)) by
  have := any_neg l (fun x => decide (0 ≤ x ∧ x < n))
  rw [within, ← this]; rfl)
 clear hs
 go_enter Tryz.func61, Tryz.ntmps61
 go_wp2_with fail
 refine (cf_within1_any A l.length c l (outB n) w.heap.size _ HS.out hm (fun x hx v w' hb e => by
  subst e
  have hc := (K0.out.below hb K0.out.lt).cell 0
  simp at hc
  exact within1_any n x _ w' hc)).mono ?_
 rintro e w1 ⟨rfl, hb1⟩
 have HB := Lib.hid (B0.out.trans (hb1.mono B0.out.size))
 clear hb1
 go_wp2
 go_ret
 exact ⟨by rw [HE.out]; rfl, HB.out⟩

theorem nodup_next {l : List Int} {k : Nat} {p : Int} (h : l[k]? = some p) (h1 : (l.take k).Nodup) (h2 : p ∉ l.take k) : (l.take (k + 1)).Nodup := by
 obtain ⟨hk', e⟩ := List.getElem?_eq_some_iff.1 h
 rw [List.take_succ_eq_append_getElem hk', e, List.nodup_append]
 refine ⟨h1, by simp, ?_⟩
 intro a ha b hb
 simp at hb
 subst hb
 intro e
 subst e
 exact h2 ha
theorem nodup_hit {l : List Int} {k : Nat} {p : Int} (h : l[k]? = some p) (h2 : p ∈ l.take k) : ¬ l.Nodup := by
 intro hn
 obtain ⟨hk', e⟩ := List.getElem?_eq_some_iff.1 h
 rw [← List.take_append_drop k l, List.nodup_append] at hn
 refine hn.2.2 p h2 p ?_ rfl
 rw [List.drop_eq_getElem_cons hk', e]
 simp
set_option maxHeartbeats 1000000 in
theorem unlike_any (v : Value) (l : List Int) (w : World) (hs : IR w v l) (hm : l.length ≤ 9223372036854775807) (hv : ∀ A n c, v = .slice A n c → n ≤ c) :
  Calls Tryz.prog 62 #[v] w fun e w' => e = .returned (.bool (decide l.Nodup)) ∧ w = w' := by
 obtain ⟨A, c, rfl⟩ := hs.shape
 have hc := hv _ _ _ rfl
 have HS := Lib.hid hs
 clear hs hv
 go_enter Tryz.func62, Tryz.ntmps62
 go_wp2
 go_loopw [7] (fun i wr => ∃ k : Nat, k ≤ l.length ∧ i = .int .i64 k ∧ Hid ((l.take k).Nodup) ∧ Hid (w = wr)) (fun i _ => l.length - (intOf i).toNat)
 case atStart => exact ⟨0, by omega, rfl, Lib.hid (by simp), Lib.hid rfl⟩
 case round =>
  obtain ⟨k, hk, rfl, IA, IB⟩ := hrel
  obtain rfl := IB.out
  clear IB
  by_cases hlt : k < l.length
  ·have hlt2 : (k : Int) < (l.length : Int) := by omega
   have hkc : k ≤ c := by omega
   have hkc2 : (k : Int) ≤ (c : Int) := by omega
   obtain ⟨y, hy⟩ : ∃ y, l[k]? = some y := ⟨_, List.getElem?_eq_getElem hlt⟩
   obtain ⟨ab, ao, rfl, hab, hcl⟩ := HS.out.cell hy
   have HY := Lib.hid hy
   have HT := Lib.hid (show IR w (.slice (some ⟨ab, ao, none⟩) k c) (l.take k) by
    obtain ⟨A', c', e', hs'⟩ := HS.out
    injection e' with e1 e2 e3
    subst e1
    refine IR.of ?_ (by rw [List.length_take]; omega)
    rw [← i64s_take]
    exact hs'.take (by omega))
   clear hy
   by_cases he : y ∈ l.take k
   ·have HD := Lib.hid (show decide (y ∈ l.take k) = true by simpa using he)
    have HF := Lib.hid (decide_eq_false (nodup_hit HY.out he))
    clear he
    go_wp2_with fail
    refine (Contains_any _ (l.take k) y _ HT.out (by rw [List.length_take]; omega)).mono ?_
    rintro e w1 ⟨rfl, rfl⟩
    rw [HD.out]
    go_wp2
    go_ret
    exact ⟨by rw [HF.out]; rfl, rfl⟩
   ·have HD := Lib.hid (show decide (y ∈ l.take k) = false by simpa using he)
    have HN := Lib.hid (nodup_next HY.out IA.out he)
    clear he
    go_wp2_with fail
    refine (Contains_any _ (l.take k) y _ HT.out (by rw [List.length_take]; omega)).mono ?_
    rintro e w1 ⟨rfl, rfl⟩
    rw [HD.out]
    go_wp2
    exact ⟨⟨k + 1, by omega, by simp, HN, Lib.hid (by trivial)⟩, by simp [intOf]; omega⟩
  ·have hlt' : ¬ k < l.length := hlt
   have HN := Lib.hid (show decide l.Nodup = true by have := IA.out; rw [List.take_of_length_le (by omega)] at this; simpa using this)
   go_wp2
   go_ret
   exact ⟨by rw [HN.out]; rfl, rfl⟩
end Go.Proofs.YtgmapikcpnffhaaGreat
