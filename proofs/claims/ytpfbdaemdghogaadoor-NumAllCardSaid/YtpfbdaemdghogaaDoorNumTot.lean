/-
  Which operators are total: num.Total.
  Conditions: none.
-/
import Derived.Test.YtpfbdaemdghogaaDoorNumCom
namespace Go.Proofs.YtpfbdaemdghogaaDoor
open Go.RowKit Go.Bk Go.Bk.Num
set_option linter.unusedVariables false
set_option linter.unusedSimpArgs false

def totB (op : Int) : Bool := match grpOf op with
  | none => false
  | some (a, _, c, _) => if c = 3 then !divB (op - a) else true

set_option maxRecDepth 100000 in
set_option maxHeartbeats 2000000 in
theorem Total_any (op : Int) (w : World) (h1 : -9223372036854775808 ≤ op) (h2 : op ≤ 9223372036854775807) : Calls Tryd.prog 18 #[.int .i64 op] w fun e w' => e = .returned (.bool (totB op)) ∧ Below w.heap.size w w' := by
  cases hg : grpOf op with
  | none =>
    have HT := Lib.hid (show findT op = .tuple #[.agg #[.int .i64 0, .int .i64 0, .int .i64 0, .int .i64 0], .int .i64 0, .bool false] by simp [findT, hg])
    have HV := Lib.hid (show totB op = false by simp [totB, hg])
    clear hg
    go_enter Tryd.func18, Tryd.ntmps18
    go_wp2_with fail
    refine (find_any op _ h1 h2).mono ?_
    rintro e w1 ⟨rfl, hb1⟩
    rw [HT.out]
    have HB := Lib.hid hb1
    clear hb1
    go_wp2
    go_ret
    rw [HV.out]
    exact ⟨rfl, HB.out.alloc HB.out.size _⟩
  | some g =>
    obtain ⟨a, b, c, d⟩ := g
    have HT := Lib.hid (show findT op = .tuple #[.agg #[.int .i64 a, .int .i64 b, .int .i64 c, .int .i64 d], .int .i64 (op - a), .bool true] by simp [findT, hg, gV])
    have HV := Lib.hid (show totB op = if c = 3 then !divB (op - a) else true by simp [totB, hg])
    generalize HK : op - a = k at HT HV
    replace HK := Lib.hid HK
    clear hg
    by_cases hc3 : c = 3
    · have q3 : (c == 3) = true := by simp [hc3]
      obtain ⟨y, HY⟩ : ∃ y, divB k = y := ⟨_, rfl⟩
      have HW := Lib.hid (show totB op = !y by rw [HV.out, if_pos hc3, HY])
      replace HY := Lib.hid HY
      clear hc3 HV
      go_enter Tryd.func18, Tryd.ntmps18
      go_wp2_with fail
      refine (find_any op _ h1 h2).mono ?_
      rintro e w1 ⟨rfl, hb1⟩
      rw [HT.out]
      have HB := Lib.hid hb1
      clear hb1
      go_wp2_with fail
      refine (division_any k _).mono ?_
      rintro e w2 ⟨rfl, rfl⟩
      rw [HY.out]
      go_wp2
      go_ret
      rw [HW.out]
      exact ⟨rfl, HB.out.alloc HB.out.size _⟩
    · have q3 : (c == 3) = false := by simp [hc3]
      have HW := Lib.hid (show totB op = true by rw [HV.out, if_neg hc3])
      clear hc3 HV
      go_enter Tryd.func18, Tryd.ntmps18
      go_wp2_with fail
      refine (find_any op _ h1 h2).mono ?_
      rintro e w1 ⟨rfl, hb1⟩
      rw [HT.out]
      have HB := Lib.hid hb1
      clear hb1
      go_wp2
      go_ret
      rw [HW.out]
      exact ⟨rfl, HB.out.alloc HB.out.size _⟩
end Go.Proofs.YtpfbdaemdghogaaDoor
