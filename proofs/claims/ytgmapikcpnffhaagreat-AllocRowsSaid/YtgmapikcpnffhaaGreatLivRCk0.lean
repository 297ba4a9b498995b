/-
 The document's side of a row: places within a bound, unlike ones; operators that go somewhere.
 Conditions: none.
-/
import Derived.Test.YtgmapikcpnffhaaGreatLivSt
namespace Go.Bk.Liv
open Go Go.RowKit Go.Bk
def placesB (n : Int) (l : List Int) (u : Bool) : Bool := within n l && (!u || decide l.Nodup)
theorem within_take {n : Int} {l : List Int} {k : Nat} {x : Int} (hx : l[k]? = some x) (h : within n (l.take k) = true) (h0 : 0 ≤ x) (h1 : x < n) : within n (l.take (k + 1)) = true := by
 obtain ⟨hk, e⟩ := List.getElem?_eq_some_iff.1 hx
 rw [List.take_succ_eq_append_getElem hk, e]
 unfold within at h ⊢
 rw [List.all_append, h]
 simp
 exact ⟨h0, h1⟩
theorem within_no {n : Int} {l : List Int} {x : Int} (hx : x ∈ l) (h : ¬ (0 ≤ x ∧ x < n)) : within n l = false := by
 rw [Bool.eq_false_iff]
 intro hw
 exact h (within_mem hw hx)
theorem nodup_take {l : List Int} {k : Nat} {x : Int} (hx : l[k]? = some x) (h : (l.take k).Nodup) (hn : x ∉ l.take k) : (l.take (k + 1)).Nodup := by
 obtain ⟨hk, e⟩ := List.getElem?_eq_some_iff.1 hx
 rw [List.take_succ_eq_append_getElem hk, e, List.nodup_append]
 exact ⟨h, by simp, fun a ha b hb e2 => by simp at hb; subst hb; rw [e2] at ha; exact hn ha⟩
theorem nodup_no {l : List Int} {j k : Nat} {x : Int} (hj : l[j]? = some x) (hk : l[k]? = some x) (h : j < k) : decide l.Nodup = false := by
 rw [decide_eq_false_iff_not]
 intro hn
 obtain ⟨h1, e1⟩ := List.getElem?_eq_some_iff.1 hj
 obtain ⟨h2, e2⟩ := List.getElem?_eq_some_iff.1 hk
 exact (List.pairwise_iff_getElem.1 hn j k h1 h2 h) (e1.trans e2.symm)
end Go.Bk.Liv
namespace Go.Proofs.YtgmapikcpnffhaaGreat
open Go.RowKit Go.Bk Go.Bk.Liv
set_option linter.unusedVariables false
set_option linter.unusedSimpArgs false
def PlPost (b : Bool) (w : World) (en : Ending) (w' : World) : Prop := en = .returned (.bool b) ∧ ∃ m, w' = w.drewN m
set_option maxRecDepth 100000 in
set_option maxHeartbeats 4000000 in
theorem places_any (u : Bool) (p : Int) (v : Value) (l : List Int) (w : World) (hs : IR w v l) (hm : l.length ≤ 9223372036854775806) : Calls Tryz.prog 45 #[v, .int .i64 p, .bool u] w (PlPost (placesB p l u) w) := by
 obtain ⟨A, c, rfl⟩ := hs.shape
 have HS := Lib.hid hs
 obtain ⟨n, hn⟩ : ∃ n, l.length = n := ⟨_, rfl⟩
 rw [hn] at HS hm ⊢
 have HN := Lib.hid hn
 clear hs hn
 cases u
 all_goals
  go_enter Tryz.func45, Tryz.ntmps45
  go_wp2
 ·go_loopw [7] (fun i wr => ∃ k : Nat, k ≤ n ∧ i = .int .i64 k ∧ Hid (within p (l.take k) = true) ∧ Hid (∃ m, wr = w.drewN m)) (fun i _ => n - (intOf i).toNat)
  case atStart => exact ⟨0, by omega, rfl, Lib.hid (by simp [within]), Lib.hid ⟨0, rfl⟩⟩
  case round =>
   obtain ⟨k, hk, rfl, IW, IM⟩ := hrel
   obtain ⟨m, rfl⟩ := IM.out
   clear IM
   by_cases hlt : k < n
   ·have hlt' : decide ((k : Int) < n) = true := by simp; omega
    have hlt2 : (k : Int) < n := by omega
    obtain ⟨x, hx⟩ : ∃ x, l[k]? = some x := ⟨_, List.getElem?_eq_getElem (by rw [HN.out]; exact hlt)⟩
    obtain ⟨ab, ao, rfl, hab, hcl⟩ := HS.out.cell hx
    have HX := Lib.hid hx
    clear hx
    by_cases h0 : x < 0
    ·have t1 : decide (x < 0) = true := by simp; omega
     have HW := Lib.hid (show placesB p l false = false by unfold placesB; rw [within_no (List.mem_of_getElem? HX.out) (by omega)]; rfl)
     clear h0
     go_wp2
     go_ret
     exact ⟨by rw [HW.out]; rfl, _, rfl⟩
    ·have t1 : decide (x < 0) = false := by simp; omega
     by_cases h1 : x < p
     ·have t2 : decide (p ≤ x) = false := by simp; omega
      have HW := Lib.hid (within_take HX.out IW.out (by omega) h1)
      clear h0 h1
      go_wp2_with fail
      go_loopw [8] (fun i wr => i = .int .i64 0 ∧ Hid (∃ m, wr = w.drewN m)) (fun _ _ => 0)
      case atStart => exact ⟨rfl, Lib.hid ⟨_, rfl⟩⟩
      case round =>
       obtain ⟨rfl, IM⟩ := hrel
       obtain ⟨m2, rfl⟩ := IM.out
       clear IM
       by_cases hk0 : 0 < k
       ·have t3 : decide (0 < k) = true := decide_eq_true hk0
        have t4 : decide ((0 : Int) < (k : Int)) = true := by simp; omega
        clear hk0
        go_wp2
        exact ⟨⟨k + 1, by omega, by simp, HW, Lib.hid ⟨_, rfl⟩⟩, by simp [intOf]; omega⟩
       ·have t3 : decide (0 < k) = false := decide_eq_false hk0
        have t4 : decide ((0 : Int) < (k : Int)) = false := by simp; omega
        have t5 : k = 0 := by omega
        subst t5
        go_wp2
        exact ⟨⟨0 + 1, by omega, by simp, HW, Lib.hid ⟨_, rfl⟩⟩, by simp [intOf]; omega⟩
     ·have t2 : decide (p ≤ x) = true := by simp; omega
      have HW := Lib.hid (show placesB p l false = false by unfold placesB; rw [within_no (List.mem_of_getElem? HX.out) (by omega)]; rfl)
      clear h0 h1
      go_wp2
      go_ret
      exact ⟨by rw [HW.out]; rfl, _, rfl⟩
   ·have hlt' : decide ((k : Int) < n) = false := by simp; omega
    have HW := Lib.hid (show placesB p l false = true by
     have := IW.out
     rw [List.take_of_length_le (by rw [HN.out]; omega)] at this
     unfold placesB; rw [this]; rfl)
    go_wp2
    go_ret
    exact ⟨by rw [HW.out]; rfl, _, rfl⟩
 ·go_loopw [7] (fun i wr => ∃ k : Nat, k ≤ n ∧ i = .int .i64 k ∧ Hid (within p (l.take k) = true) ∧ Hid ((l.take k).Nodup) ∧ Hid (∃ m, wr = w.drewN m)) (fun i _ => n - (intOf i).toNat)
  case atStart => exact ⟨0, by omega, rfl, Lib.hid (by simp [within]), Lib.hid (by simp), Lib.hid ⟨0, rfl⟩⟩
  case round =>
   obtain ⟨k, hk, rfl, IW, IN, IM⟩ := hrel
   obtain ⟨m, rfl⟩ := IM.out
   clear IM
   by_cases hlt : k < n
   ·have hlt' : decide ((k : Int) < n) = true := by simp; omega
    have hlt2 : (k : Int) < n := by omega
    obtain ⟨x, hx⟩ : ∃ x, l[k]? = some x := ⟨_, List.getElem?_eq_getElem (by rw [HN.out]; exact hlt)⟩
    obtain ⟨ab, ao, rfl, hab, hcl⟩ := HS.out.cell hx
    have HX := Lib.hid hx
    clear hx
    by_cases h0 : x < 0
    ·have t1 : decide (x < 0) = true := by simp; omega
     have HW := Lib.hid (show placesB p l true = false by unfold placesB; rw [within_no (List.mem_of_getElem? HX.out) (by omega)]; rfl)
     clear h0
     go_wp2
     go_ret
     exact ⟨by rw [HW.out]; rfl, _, rfl⟩
    ·have t1 : decide (x < 0) = false := by simp; omega
     by_cases h1 : x < p
     ·have t2 : decide (p ≤ x) = false := by simp; omega
      have HW := Lib.hid (within_take HX.out IW.out (by omega) h1)
      clear h0 h1
      go_wp2_with fail
      go_loopw [8] (fun i wr => ∃ j : Nat, j ≤ k ∧ i = .int .i64 j ∧ Hid (x ∉ l.take j) ∧ Hid (∃ m, wr = w.drewN m)) (fun i _ => k - (intOf i).toNat)
      case atStart => exact ⟨0, by omega, rfl, Lib.hid (by simp), Lib.hid ⟨_, rfl⟩⟩
      case round =>
       obtain ⟨j, hj, rfl, IJ, IM⟩ := hrel
       obtain ⟨m2, rfl⟩ := IM.out
       clear IM
       by_cases hjk : j < k
       ·have t3 : decide (j < k) = true := decide_eq_true hjk
        have t4 : decide ((j : Int) < (k : Int)) = true := by simp; omega
        have t5 : (j : Int) < n := by omega
        obtain ⟨y, hy⟩ : ∃ y, l[j]? = some y := ⟨_, List.getElem?_eq_getElem (by rw [HN.out]; omega)⟩
        obtain ⟨ab', ao', hae, hab', hcl2⟩ := HS.out.cell hy
        injection hae with hae
        injection hae with e1 e2
        subst e1
        subst e2
        have HY := Lib.hid hy
        clear hy
        by_cases hyx : y = x
        ·have t6 : (y == x) = true := by simp [hyx]
         have HD := Lib.hid (show placesB p l true = false by unfold placesB; rw [nodup_no (hyx ▸ HY.out) HX.out hjk]; simp)
         clear hyx
         go_wp2_with fail
         go_quiet (fail)
         go_wp2
         go_ret
         exact ⟨by rw [HD.out]; rfl, _, drewN_drewN _ _ _⟩
        ·have t6 : (y == x) = false := by simp [hyx]
         have HJ := Lib.hid (show x ∉ l.take (j + 1) by
          rw [take_step HY.out]
          rintro (h | h)
          ·exact IJ.out h
          ·exact hyx h.symm)
         clear hyx IJ
         go_wp2_with fail
         go_quiet (fail)
         go_wp2
         exact ⟨⟨j + 1, by omega, by simp, HJ, Lib.hid ⟨_, rfl⟩⟩, by simp [intOf]; omega⟩
       ·have t3 : decide (j < k) = false := decide_eq_false hjk
        have t4 : decide ((j : Int) < (k : Int)) = false := by simp; omega
        have t5 : j = k := by omega
        subst t5
        have HN2 := Lib.hid (nodup_take HX.out IN.out IJ.out)
        clear IJ
        go_wp2
        exact ⟨⟨j + 1, by omega, by simp, HW, HN2, Lib.hid ⟨_, rfl⟩⟩, by simp [intOf]; omega⟩
     ·have t2 : decide (p ≤ x) = true := by simp; omega
      have HW := Lib.hid (show placesB p l true = false by unfold placesB; rw [within_no (List.mem_of_getElem? HX.out) (by omega)]; rfl)
      clear h0 h1
      go_wp2
      go_ret
      exact ⟨by rw [HW.out]; rfl, _, rfl⟩
   ·have hlt' : decide ((k : Int) < n) = false := by simp; omega
    have HW := Lib.hid (show placesB p l true = true by
     have := IW.out
     rw [List.take_of_length_le (by rw [HN.out]; omega)] at this
     have h2 := IN.out
     rw [List.take_of_length_le (by rw [HN.out]; omega)] at h2
     unfold placesB; rw [this, decide_eq_true h2]; rfl)
    go_wp2
    go_ret
    exact ⟨by rw [HW.out]; rfl, _, rfl⟩
set_option maxHeartbeats 400000 in
theorem Goes_any (op : Int) (w : World) : Calls Tryz.prog 47 #[.int .i64 op] w fun e w' => e = .returned (.bool (decide (273 ≤ op ∧ op ≤ 277))) ∧ w = w' := by
 by_cases h1 : 273 ≤ op
 ·by_cases h2 : op ≤ 277
  ·have HE := Lib.hid (show decide (273 ≤ op ∧ op ≤ 277) = true from decide_eq_true ⟨h1, h2⟩)
   have t1 : decide (273 ≤ op) = true := decide_eq_true h1
   have t2 : decide (op ≤ 277) = true := decide_eq_true h2
   clear h1 h2
   go_enter Tryz.func47, Tryz.ntmps47
   go_wp2
   go_ret
   exact ⟨by rw [HE.out]; rfl, rfl⟩
  ·have HE := Lib.hid (show decide (273 ≤ op ∧ op ≤ 277) = false from decide_eq_false (fun h => h2 h.2))
   have t1 : decide (273 ≤ op) = true := decide_eq_true h1
   have t2 : decide (op ≤ 277) = false := decide_eq_false h2
   clear h1 h2
   go_enter Tryz.func47, Tryz.ntmps47
   go_wp2
   go_ret
   exact ⟨by rw [HE.out]; rfl, rfl⟩
 ·have HE := Lib.hid (show decide (273 ≤ op ∧ op ≤ 277) = false from decide_eq_false (fun h => h1 h.1))
  have t1 : decide (273 ≤ op) = false := decide_eq_false h1
  clear h1
  go_enter Tryz.func47, Tryz.ntmps47
  go_wp2
  go_ret
  exact ⟨by rw [HE.out]; rfl, rfl⟩
end Go.Proofs.YtgmapikcpnffhaaGreat
