/-
  The reference's Ops, Total and Commutes, the program's Ops, and the statements' same: what they answer.
  Conditions: none.
-/
import Derived.Test.YtpfbdaemdghogaaDoorNumRSig
import Derived.Test.YtpfbdaemdghogaaDoorNumTot
namespace Go.Proofs.YtpfbdaemdghogaaDoor
open Go Go.Bk.Num
/-- the operators below a number -/
def opsTo (k : Nat) : List Int := ((List.range k).map Int.ofNat).filter fun op => ofV op != 0
def opsL : List Int := opsTo 256
theorem opsTo_yes (k : Nat) (h : (ofV (k : Int) != 0) = true) : opsTo (k + 1) = opsTo k ++ [(k : Int)] := by
  unfold opsTo
  rw [List.range_succ, List.map_append, List.filter_append]
  simp; simpa using h
theorem opsTo_no (k : Nat) (h : (ofV (k : Int) != 0) = false) : opsTo (k + 1) = opsTo k := by
  unfold opsTo
  rw [List.range_succ, List.map_append, List.filter_append]
  simp; simpa using h
theorem opsTo_len (k : Nat) : (opsTo k).length ≤ k := by
  unfold opsTo
  refine Nat.le_trans (List.length_filter_le _ _) (by simp)
end Go.Proofs.YtpfbdaemdghogaaDoor
namespace Go.Proofs.YtpfbdaemdghogaaDoor
open Go.RowKit Go.Bk Go.Bk.Num
set_option linter.unusedVariables false
set_option linter.unusedSimpArgs false

def OpsPost (l : List Int) (w : World) (e : Ending) (w' : World) : Prop :=
  ∃ A c, e = .returned (.slice A l.length c) ∧ w'.ownsRow w.heap.size 3 1 (.slice A l.length c) l.length (intsV l) ∧ Below w.heap.size w w'

def ROpsRel (w : World) (v i : Value) (wr : World) : Prop :=
  ∃ k : Nat, k ≤ 256 ∧ i = .int .i64 k ∧ wr.ownsRow w.heap.size 3 1 v (opsTo k).length (intsV (opsTo k)) ∧ Below w.heap.size w wr

theorem rops_more {w wr w3 : World} {k : Nat} {v v' : Value} (hk : k < 256) (h : (ofV (k : Int) != 0) = true) (ho : wr.ownsRow w.heap.size 3 1 v (opsTo k).length (intsV (opsTo k))) (hb : Below w.heap.size w wr)
    (h1 : w3.ownsRow w.heap.size 3 1 v' ((opsTo k).length + 1) (intsV (opsTo k) ++ [.int .i64 (k : Int)])) (h2 : Below w.heap.size (wr.alloc (.cells #[.int .i64 (k : Int)] 3)) w3) : ROpsRel w v' (.int .i64 ((k : Int) + 1)) w3 := by
  refine ⟨k + 1, by omega, by simp, ?_, (hb.alloc hb.size _).trans h2⟩
  rw [opsTo_yes k h]
  simpa [intsV] using h1

theorem own_alloc' {w : World} {base : Nat} {e : TypeId} {size n : Nat} {v : Value} {xs : List Value} (h : w.ownsRow base e size v n xs) (o : Obj) : (w.alloc o).ownsRow base e size v n xs := own_alloc h o
set_option maxRecDepth 100000 in
set_option maxHeartbeats 2000000 in
theorem ROps_any (w : World) : Calls Tryd.prog 13 #[] w (OpsPost opsL w) := by
  go_enter Tryd.func13, Tryd.ntmps13
  go_wp2
  go_loopw [1, 2] (fun v i wr => ROpsRel w v i wr) (fun _ i _ => 256 - (intOf i).toNat)
  case atStart => exact ⟨0, by omega, rfl, World.ownsRow_nil _ _ _ _, Below.refl _ _⟩
  case round =>
    rename_i wr
    obtain ⟨k, hk, rfl, ho, hb⟩ := hrel
    have HO := Lib.hid ho
    have HB := Lib.hid hb
    clear ho hb
    by_cases hlt : k < 256
    · have hlt' : decide ((k : Int) < 256) = true := by simp; omega
      cases hc : (ofV (k : Int) != 0) with
      | true =>
        generalize hv : ofV (k : Int) = ov at hc
        have HV := Lib.hid hv
        clear hv
        go_wp2_with fail
        refine (Of_any (k : Int) _).mono ?_
        rintro e w2 ⟨rfl, rfl⟩
        rw [HV.out]
        go_wp2_with (at_builtin; refine append_own _ rfl _ _ 31 rfl w.heap.size 3 (.int .i64 0) 8 Tryd.underlying31 info_int rfl _ (opsTo k).length (intsV (opsTo k)) rfl (own_alloc' HO.out _) (some ⟨wr.heap.size, 0, none⟩) 1 1 [.int .i64 (k : Int)] rfl (src_one _ _ _) (one_int _ _) (by have := opsTo_len k; unfold maxLen; omega) (by have := opsTo_len k; omega) (by have := HB.out.size; simp; omega) ?_)
        rintro v' w3 h1 h2
        have HR := Lib.hid (rops_more hlt (by rw [HV.out]; exact hc) HO.out HB.out h1 h2)
        clear h1 h2
        go_wp2
        go_roundw
        case rel => exact HR.out
        case measure => simp [intOf]; omega
      | false =>
        generalize hv : ofV (k : Int) = ov at hc
        have HV := Lib.hid hv
        clear hv
        go_wp2_with fail
        refine (Of_any (k : Int) _).mono ?_
        rintro e w2 ⟨rfl, rfl⟩
        rw [HV.out]
        go_wp2
        go_roundw
        case rel => exact ⟨k + 1, by omega, by simp, by rw [opsTo_no k (by rw [HV.out]; exact hc)]; exact HO.out, HB.out⟩
        case measure => simp [intOf]; omega
    · obtain rfl : k = 256 := by omega
      obtain ⟨A, c, hA, hc⟩ := own_shape HO.out
      subst hA
      go_wp2
      go_ret
      exact ⟨A, c, rfl, HO.out, HB.out⟩

def rtotB (op : Int) : Bool := (ofV op != 0) && (!inB op 109 112 && !inB op 127 130)
set_option maxRecDepth 100000 in
set_option maxHeartbeats 2000000 in
theorem RTotal_any (op : Int) (w : World) : Calls Tryd.prog 21 #[.int .i64 op] w fun e w' => e = .returned (.bool (rtotB op)) ∧ w = w' := by
  cases h0 : (ofV op != 0) with
  | false =>
    have HT := Lib.hid (show rtotB op = false by simp only [rtotB, h0, Bool.false_and])
    generalize hv : ofV op = ov at h0
    have HV := Lib.hid hv
    clear hv
    go_enter Tryd.func21, Tryd.ntmps21
    go_wp2_with fail
    refine (Of_any op _).mono ?_
    rintro e w2 ⟨rfl, rfl⟩
    rw [HV.out]
    go_wp2
    go_ret
    exact ⟨by rw [HT.out]; rfl, rfl⟩
  | true =>
    cases h1 : inB op 109 112 with
    | true =>
      have HT := Lib.hid (show rtotB op = false by simp only [rtotB, h0, h1]; rfl)
      generalize hv : ofV op = ov at h0
      have HV := Lib.hid hv
      have H1 := Lib.hid h1
      clear hv h1
      go_enter Tryd.func21, Tryd.ntmps21
      go_wp2_with fail
      refine (Of_any op _).mono ?_
      rintro e w2 ⟨rfl, rfl⟩
      rw [HV.out]
      go_wp2_with fail
      refine (in_any _ _ _ _).mono ?_
      rintro e w2 ⟨rfl, rfl⟩
      rw [H1.out]
      go_wp2
      go_ret
      exact ⟨by rw [HT.out]; rfl, rfl⟩
    | false =>
      have HT := Lib.hid (show rtotB op = !inB op 127 130 by simp only [rtotB, h0, h1]; rfl)
      generalize hv : ofV op = ov at h0
      have HV := Lib.hid hv
      have H1 := Lib.hid h1
      clear hv h1
      go_enter Tryd.func21, Tryd.ntmps21
      go_wp2_with fail
      refine (Of_any op _).mono ?_
      rintro e w2 ⟨rfl, rfl⟩
      rw [HV.out]
      go_wp2_with fail
      refine (in_any _ _ _ _).mono ?_
      rintro e w2 ⟨rfl, rfl⟩
      rw [H1.out]
      go_wp2_with fail
      refine (in_any _ _ _ _).mono ?_
      rintro e w2 ⟨rfl, rfl⟩
      generalize inB op 127 130 = z at *
      go_wp2
      all_goals
        go_ret
        exact ⟨by rw [HT.out]; try rfl, rfl⟩
def rcomB (op : Int) : Bool := (op == 106) || ((op == 108) || ((op == 124) || ((op == 126) || (inB op 113 115 || (inB op 131 133 || ((op == 70) || ((op == 71) || ((op == 81) || ((op == 82))))))))))
set_option maxRecDepth 100000 in
set_option maxHeartbeats 4000000 in
theorem RCommutes_any (op : Int) (w : World) : Calls Tryd.prog 22 #[.int .i64 op] w fun e w' => e = .returned (.bool (rcomB op)) ∧ w = w' := by
  cases h0 : (op == 106) with
  | true =>
    have HT := Lib.hid (show rcomB op = true by simp [rcomB, h0])
    go_enter Tryd.func22, Tryd.ntmps22
    go_wp2_with (go_at_call 35; refine (in_any _ _ _ _).mono ?_; rintro e w1 ⟨rfl, rfl⟩)
    go_ret
    exact ⟨by rw [HT.out]; rfl, rfl⟩
  | false =>
    cases h1 : (op == 108) with
    | true =>
      have HT := Lib.hid (show rcomB op = true by simp [rcomB, h0, h1])
      go_enter Tryd.func22, Tryd.ntmps22
      go_wp2_with (go_at_call 35; refine (in_any _ _ _ _).mono ?_; rintro e w1 ⟨rfl, rfl⟩)
      go_ret
      exact ⟨by rw [HT.out]; rfl, rfl⟩
    | false =>
      cases h2 : (op == 124) with
      | true =>
        have HT := Lib.hid (show rcomB op = true by simp [rcomB, h0, h1, h2])
        go_enter Tryd.func22, Tryd.ntmps22
        go_wp2_with (go_at_call 35; refine (in_any _ _ _ _).mono ?_; rintro e w1 ⟨rfl, rfl⟩)
        go_ret
        exact ⟨by rw [HT.out]; rfl, rfl⟩
      | false =>
        cases h3 : (op == 126) with
        | true =>
          have HT := Lib.hid (show rcomB op = true by simp [rcomB, h0, h1, h2, h3])
          go_enter Tryd.func22, Tryd.ntmps22
          go_wp2_with (go_at_call 35; refine (in_any _ _ _ _).mono ?_; rintro e w1 ⟨rfl, rfl⟩)
          go_ret
          exact ⟨by rw [HT.out]; rfl, rfl⟩
        | false =>
          cases h4 : inB op 113 115 with
          | true =>
            have HT := Lib.hid (show rcomB op = true by simp [rcomB, h0, h1, h2, h3, h4])
            go_enter Tryd.func22, Tryd.ntmps22
            go_wp2_with (go_at_call 35; refine (in_any _ _ _ _).mono ?_; rintro e w1 ⟨rfl, rfl⟩)
            go_ret
            exact ⟨by rw [HT.out]; rfl, rfl⟩
          | false =>
            cases h5 : inB op 131 133 with
            | true =>
              have HT := Lib.hid (show rcomB op = true by simp [rcomB, h0, h1, h2, h3, h4, h5])
              go_enter Tryd.func22, Tryd.ntmps22
              go_wp2_with (go_at_call 35; refine (in_any _ _ _ _).mono ?_; rintro e w1 ⟨rfl, rfl⟩)
              go_ret
              exact ⟨by rw [HT.out]; rfl, rfl⟩
            | false =>
              cases h6 : (op == 70) with
              | true =>
                have HT := Lib.hid (show rcomB op = true by simp [rcomB, h0, h1, h2, h3, h4, h5, h6])
                go_enter Tryd.func22, Tryd.ntmps22
                go_wp2_with (go_at_call 35; refine (in_any _ _ _ _).mono ?_; rintro e w1 ⟨rfl, rfl⟩)
                go_ret
                exact ⟨by rw [HT.out]; rfl, rfl⟩
              | false =>
                cases h7 : (op == 71) with
                | true =>
                  have HT := Lib.hid (show rcomB op = true by simp [rcomB, h0, h1, h2, h3, h4, h5, h6, h7])
                  go_enter Tryd.func22, Tryd.ntmps22
                  go_wp2_with (go_at_call 35; refine (in_any _ _ _ _).mono ?_; rintro e w1 ⟨rfl, rfl⟩)
                  go_ret
                  exact ⟨by rw [HT.out]; rfl, rfl⟩
                | false =>
                  cases h8 : (op == 81) with
                  | true =>
                    have HT := Lib.hid (show rcomB op = true by simp [rcomB, h0, h1, h2, h3, h4, h5, h6, h7, h8])
                    go_enter Tryd.func22, Tryd.ntmps22
                    go_wp2_with (go_at_call 35; refine (in_any _ _ _ _).mono ?_; rintro e w1 ⟨rfl, rfl⟩)
                    go_ret
                    exact ⟨by rw [HT.out]; rfl, rfl⟩
                  | false =>
                    cases h9 : (op == 82) with
                    | true =>
                      have HT := Lib.hid (show rcomB op = true by simp [rcomB, h0, h1, h2, h3, h4, h5, h6, h7, h8, h9])
                      go_enter Tryd.func22, Tryd.ntmps22
                      go_wp2_with (go_at_call 35; refine (in_any _ _ _ _).mono ?_; rintro e w1 ⟨rfl, rfl⟩)
                      go_ret
                      exact ⟨by rw [HT.out]; rfl, rfl⟩
                    | false =>
                      have HT := Lib.hid (show rcomB op = false by simp [rcomB, h0, h1, h2, h3, h4, h5, h6, h7, h8, h9])
                      go_enter Tryd.func22, Tryd.ntmps22
                      go_wp2_with (go_at_call 35; refine (in_any _ _ _ _).mono ?_; rintro e w1 ⟨rfl, rfl⟩)
                      go_ret
                      exact ⟨by rw [HT.out]; rfl, rfl⟩
theorem rtot_eq (op : Int) : rtotB op = totB op := by
  unfold rtotB totB ofV
  rcases grp_cases op with ⟨hg, z3, z4, z5, z6, z7⟩ | ⟨hg, z3, z4⟩ | ⟨hg, z3, z4⟩ | ⟨hg, z3, z4⟩ | ⟨hg, z3, z4⟩ | ⟨hg, z3, z4⟩ | ⟨hg, z3, z4⟩ | ⟨hg, z3, z4⟩ | ⟨hg, z3, z4⟩ | ⟨hg, z3, z4⟩ | ⟨hg, z3, z4⟩ | ⟨hg, z3, z4⟩ | ⟨hg, z3, z4⟩
  all_goals
    rw [hg]
    rw [Bool.eq_iff_iff]
    simp [inB, divB]
    try omega
theorem rcom_eq (op : Int) : rcomB op = comB op := by
  unfold rcomB comB
  rcases grp_cases op with ⟨hg, z3, z4, z5, z6, z7⟩ | ⟨hg, z3, z4⟩ | ⟨hg, z3, z4⟩ | ⟨hg, z3, z4⟩ | ⟨hg, z3, z4⟩ | ⟨hg, z3, z4⟩ | ⟨hg, z3, z4⟩ | ⟨hg, z3, z4⟩ | ⟨hg, z3, z4⟩ | ⟨hg, z3, z4⟩ | ⟨hg, z3, z4⟩ | ⟨hg, z3, z4⟩ | ⟨hg, z3, z4⟩
  all_goals
    rw [hg]
    rw [Bool.eq_iff_iff]
    simp [inB, comK]
    try omega

end Go.Proofs.YtpfbdaemdghogaaDoor
