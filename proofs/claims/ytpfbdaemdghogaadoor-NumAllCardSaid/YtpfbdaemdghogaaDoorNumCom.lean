/-
  Which operators commute: num.Commutes.
  Conditions: none.
-/
import Derived.Test.YtpfbdaemdghogaaDoorNumAlive
namespace Go.Proofs.YtpfbdaemdghogaaDoor
open Go.RowKit Go.Bk Go.Bk.Num
set_option linter.unusedVariables false
set_option linter.unusedSimpArgs false

/-- does an operator of kind c at its place k commute? -/
def comK (c k : Int) : Bool := if c = 1 then decide (k < 2) else decide (c = 3 ∧ (k = 0 ∨ k = 2 ∨ (7 ≤ k ∧ k ≤ 9)))
def comB (op : Int) : Bool := match grpOf op with
  | none => false
  | some (a, _, c, _) => comK c (op - a)

set_option maxRecDepth 100000 in
set_option maxHeartbeats 2000000 in
theorem Commutes_any (op : Int) (w : World) (h1 : -9223372036854775808 ≤ op) (h2 : op ≤ 9223372036854775807) : Calls Tryd.prog 19 #[.int .i64 op] w fun e w' => e = .returned (.bool (comB op)) ∧ Below w.heap.size w w' := by
  cases hg : grpOf op with
  | none =>
    have HT := Lib.hid (show findT op = .tuple #[.agg #[.int .i64 0, .int .i64 0, .int .i64 0, .int .i64 0], .int .i64 0, .bool false] by simp [findT, hg])
    have HV := Lib.hid (show comB op = false by simp [comB, hg])
    clear hg
    go_enter Tryd.func19, Tryd.ntmps19
    go_wp2_with fail
    refine (find_any op _ h1 h2).mono ?_
    rintro e w1 ⟨rfl, hb1⟩
    rw [HT.out]
    have HB := Lib.hid hb1
    clear hb1
    go_wp2
    go_ret
    rw [HV.out]
    exact ⟨rfl, HB.out.alloc HB.out.size _⟩
  | some g =>
    obtain ⟨a, b, c, d⟩ := g
    have HT := Lib.hid (show findT op = .tuple #[.agg #[.int .i64 a, .int .i64 b, .int .i64 c, .int .i64 d], .int .i64 (op - a), .bool true] by simp [findT, hg, gV])
    have HV := Lib.hid (show comB op = comK c (op - a) by simp [comB, hg])
    obtain ⟨hc, _, _, _, _, _, _⟩ := grp_kind hg
    generalize HK : op - a = k at HT HV
    replace HK := Lib.hid HK
    clear hg
    by_cases hc1 : c = 1
    · have q : (c == 1) = true := by simp [hc1]
      have HC := Lib.hid (show comK c k = decide (k < 2) by simp [comK, hc1])
      clear hc hc1
      go_enter Tryd.func19, Tryd.ntmps19
      go_wp2_with fail
      refine (find_any op _ h1 h2).mono ?_
      rintro e w1 ⟨rfl, hb1⟩
      rw [HT.out]
      have HB := Lib.hid hb1
      clear hb1
      go_wp2
      go_ret
      rw [HV.out, HC.out]
      exact ⟨rfl, HB.out.alloc HB.out.size _⟩
    · have q : (c == 1) = false := by simp [hc1]
      by_cases hc3 : c = 3
      · have q3 : (c == 3) = true := by simp [hc3]
        have key : ((k == 0) = true ∧ comK c k = true) ∨ ((k == 0) = false ∧ (k == 2) = true ∧ comK c k = true) ∨ ((k == 0) = false ∧ (k == 2) = false ∧ decide (7 ≤ k) = true ∧ comK c k = decide (k ≤ 9)) ∨ ((k == 0) = false ∧ (k == 2) = false ∧ decide (7 ≤ k) = false ∧ comK c k = false) := by
          by_cases k0 : k = 0
          · exact .inl ⟨by simp [k0], by simp [comK, hc1, hc3, k0]⟩
          · by_cases k2 : k = 2
            · exact .inr (.inl ⟨by simp [k0], by simp [k2], by simp [comK, hc3, k2]⟩)
            · by_cases k7 : 7 ≤ k
              · exact .inr (.inr (.inl ⟨by simp [k0], by simp [k2], by simp [k7], by simp [comK, hc3, k0, k2, k7]⟩))
              · exact .inr (.inr (.inr ⟨by simp [k0], by simp [k2], by simp [k7], by simp [comK, hc3, k0, k2, k7]⟩))
        clear hc hc1 hc3
        rcases key with ⟨k0, hv⟩ | ⟨k0, k2, hv⟩ | ⟨k0, k2, k7, hv⟩ | ⟨k0, k2, k7, hv⟩
        all_goals
          have HC := Lib.hid hv
          clear hv
          go_enter Tryd.func19, Tryd.ntmps19
          go_wp2_with fail
          refine (find_any op _ h1 h2).mono ?_
          rintro e w1 ⟨rfl, hb1⟩
          rw [HT.out]
          have HB := Lib.hid hb1
          clear hb1
          go_wp2
          go_ret
          rw [HV.out, HC.out]
          exact ⟨rfl, HB.out.alloc HB.out.size _⟩
      · have q3 : (c == 3) = false := by simp [hc3]
        have HC := Lib.hid (show comK c k = false by simp [comK, hc1, hc3])
        clear hc hc1 hc3
        go_enter Tryd.func19, Tryd.ntmps19
        go_wp2_with fail
        refine (find_any op _ h1 h2).mono ?_
        rintro e w1 ⟨rfl, hb1⟩
        rw [HT.out]
        have HB := Lib.hid hb1
        clear hb1
        go_wp2
        go_ret
        rw [HV.out, HC.out]
        exact ⟨rfl, HB.out.alloc HB.out.size _⟩
end Go.Proofs.YtpfbdaemdghogaaDoor
