/-
  The reference's kinds of operators: in, Of, Unary, Sig.
  Conditions: none.
-/
import Derived.Test.YtkfnnmdghibjbaaNumSig
namespace Go.Proofs.Ytkfnnmdghibjbaa
open Go.RowKit Go.Bk Go.Bk.Num
set_option linter.unusedVariables false
set_option linter.unusedSimpArgs false

/-- the first of two numbers of a row of one's own -/
theorem own_head {w : World} (d : Int) : (w.alloc (.cells #[.int .i64 d, .int .i64 d] 3)).ownsRow w.heap.size 3 1 (.slice (some ⟨w.heap.size, 0, none⟩) 1 2) 1 (intsV [d]) :=
  ⟨by simp [intsV], .inr ⟨w.heap.size, 2, #[.int .i64 d, .int .i64 d], rfl, Nat.le_refl _, Blk.new w 3 _, by omega, by unfold maxLen; omega, by simp, by simp [intsV]⟩⟩
def inB (op a b : Int) : Bool := decide (a ≤ op ∧ op ≤ b)
theorem inT {op a b : Int} (h1 : a ≤ op) (h2 : op ≤ b) : inB op a b = true := by simp [inB, h1, h2]
theorem inF {op a b : Int} (h : op < a ∨ b < op) : inB op a b = false := by simp [inB]; omega
theorem eqF {op a : Int} (h : op < a ∨ a < op) : (op == a) = false := by simp; omega
theorem eqT {op a : Int} (h1 : a ≤ op) (h2 : op ≤ a) : (op == a) = true := by simp; omega
theorem in_any (op a b : Int) (w : World) : Calls Try.prog 99 #[.int .i64 op, .int .i64 a, .int .i64 b] w fun e w' => e = .returned (.bool (inB op a b)) ∧ w = w' := by
  by_cases h1 : a ≤ op
  · have g1 : decide (a ≤ op) = true := by simpa using h1
    have HE := Lib.hid (show inB op a b = decide (op ≤ b) by simp [inB, h1])
    clear h1
    go_enter Try.func99, Try.ntmps99
    go_wp2
    go_ret
    rw [HE.out]
    exact ⟨rfl, rfl⟩
  · have g1 : decide (a ≤ op) = false := by simpa using h1
    have HE := Lib.hid (show inB op a b = false by simp [inB, h1])
    clear h1
    go_enter Try.func99, Try.ntmps99
    go_wp2
    go_ret
    rw [HE.out]
    exact ⟨rfl, rfl⟩

theorem grp_cases (op : Int) : (grpOf op = none ∧ (op < 69 ∨ 90 < op) ∧ (op < 103 ∨ 138 < op) ∧ (op < 167 ∨ 167 < op) ∧ (op < 172 ∨ 173 < op) ∧ (op < 192 ∨ 196 < op)) ∨ (grpOf op = some (69, 1, 0, 127) ∧ 69 ≤ op ∧ op ≤ 69) ∨ (grpOf op = some (70, 10, 1, 127) ∧ 70 ≤ op ∧ op ≤ 79) ∨ (grpOf op = some (80, 1, 0, 126) ∧ 80 ≤ op ∧ op ≤ 80) ∨ (grpOf op = some (81, 10, 1, 126) ∧ 81 ≤ op ∧ op ≤ 90) ∨ (grpOf op = some (103, 3, 2, 127) ∧ 103 ≤ op ∧ op ≤ 105) ∨ (grpOf op = some (106, 15, 3, 127) ∧ 106 ≤ op ∧ op ≤ 120) ∨ (grpOf op = some (121, 3, 2, 126) ∧ 121 ≤ op ∧ op ≤ 123) ∨ (grpOf op = some (124, 15, 3, 126) ∧ 124 ≤ op ∧ op ≤ 138) ∨ (grpOf op = some (167, 1, 4, 126) ∧ 167 ≤ op ∧ op ≤ 167) ∨ (grpOf op = some (172, 2, 5, 127) ∧ 172 ≤ op ∧ op ≤ 173) ∨ (grpOf op = some (192, 2, 6, 127) ∧ 192 ≤ op ∧ op ≤ 193) ∨ (grpOf op = some (194, 3, 6, 126) ∧ 194 ≤ op ∧ op ≤ 196) := by
  have key : ∀ g : Int × Int × Int × Int, inG op g = decide (g.1 ≤ op ∧ op - g.1 < g.2.1) := fun g => by simp [inG]
  by_cases h0 : 69 ≤ op ∧ op ≤ 69
  · refine .inr (.inl ⟨grpOf_some (k := 0) (fun j hj x hx => ?_) (show grps[0]? = some (69, 1, 0, 127) from rfl) (by rw [key]; simp; omega), h0.1, h0.2⟩)
    omega
  by_cases h1 : 70 ≤ op ∧ op ≤ 79
  · refine .inr (.inr (.inl ⟨grpOf_some (k := 1) (fun j hj x hx => ?_) (show grps[1]? = some (70, 10, 1, 127) from rfl) (by rw [key]; simp; omega), h1.1, h1.2⟩))
    have hj' : j = 0 := by omega
    rcases hj' with rfl <;> (injection hx with hx; subst hx; rw [key]; simp; omega)
  by_cases h2 : 80 ≤ op ∧ op ≤ 80
  · refine .inr (.inr (.inr (.inl ⟨grpOf_some (k := 2) (fun j hj x hx => ?_) (show grps[2]? = some (80, 1, 0, 126) from rfl) (by rw [key]; simp; omega), h2.1, h2.2⟩)))
    have hj' : j = 0 ∨ j = 1 := by omega
    rcases hj' with rfl | rfl <;> (injection hx with hx; subst hx; rw [key]; simp; omega)
  by_cases h3 : 81 ≤ op ∧ op ≤ 90
  · refine .inr (.inr (.inr (.inr (.inl ⟨grpOf_some (k := 3) (fun j hj x hx => ?_) (show grps[3]? = some (81, 10, 1, 126) from rfl) (by rw [key]; simp; omega), h3.1, h3.2⟩))))
    have hj' : j = 0 ∨ j = 1 ∨ j = 2 := by omega
    rcases hj' with rfl | rfl | rfl <;> (injection hx with hx; subst hx; rw [key]; simp; omega)
  by_cases h4 : 103 ≤ op ∧ op ≤ 105
  · refine .inr (.inr (.inr (.inr (.inr (.inl ⟨grpOf_some (k := 4) (fun j hj x hx => ?_) (show grps[4]? = some (103, 3, 2, 127) from rfl) (by rw [key]; simp; omega), h4.1, h4.2⟩)))))
    have hj' : j = 0 ∨ j = 1 ∨ j = 2 ∨ j = 3 := by omega
    rcases hj' with rfl | rfl | rfl | rfl <;> (injection hx with hx; subst hx; rw [key]; simp; omega)
  by_cases h5 : 106 ≤ op ∧ op ≤ 120
  · refine .inr (.inr (.inr (.inr (.inr (.inr (.inl ⟨grpOf_some (k := 5) (fun j hj x hx => ?_) (show grps[5]? = some (106, 15, 3, 127) from rfl) (by rw [key]; simp; omega), h5.1, h5.2⟩))))))
    have hj' : j = 0 ∨ j = 1 ∨ j = 2 ∨ j = 3 ∨ j = 4 := by omega
    rcases hj' with rfl | rfl | rfl | rfl | rfl <;> (injection hx with hx; subst hx; rw [key]; simp; omega)
  by_cases h6 : 121 ≤ op ∧ op ≤ 123
  · refine .inr (.inr (.inr (.inr (.inr (.inr (.inr (.inl ⟨grpOf_some (k := 6) (fun j hj x hx => ?_) (show grps[6]? = some (121, 3, 2, 126) from rfl) (by rw [key]; simp; omega), h6.1, h6.2⟩)))))))
    have hj' : j = 0 ∨ j = 1 ∨ j = 2 ∨ j = 3 ∨ j = 4 ∨ j = 5 := by omega
    rcases hj' with rfl | rfl | rfl | rfl | rfl | rfl <;> (injection hx with hx; subst hx; rw [key]; simp; omega)
  by_cases h7 : 124 ≤ op ∧ op ≤ 138
  · refine .inr (.inr (.inr (.inr (.inr (.inr (.inr (.inr (.inl ⟨grpOf_some (k := 7) (fun j hj x hx => ?_) (show grps[7]? = some (124, 15, 3, 126) from rfl) (by rw [key]; simp; omega), h7.1, h7.2⟩))))))))
    have hj' : j = 0 ∨ j = 1 ∨ j = 2 ∨ j = 3 ∨ j = 4 ∨ j = 5 ∨ j = 6 := by omega
    rcases hj' with rfl | rfl | rfl | rfl | rfl | rfl | rfl <;> (injection hx with hx; subst hx; rw [key]; simp; omega)
  by_cases h8 : 167 ≤ op ∧ op ≤ 167
  · refine .inr (.inr (.inr (.inr (.inr (.inr (.inr (.inr (.inr (.inl ⟨grpOf_some (k := 8) (fun j hj x hx => ?_) (show grps[8]? = some (167, 1, 4, 126) from rfl) (by rw [key]; simp; omega), h8.1, h8.2⟩)))))))))
    have hj' : j = 0 ∨ j = 1 ∨ j = 2 ∨ j = 3 ∨ j = 4 ∨ j = 5 ∨ j = 6 ∨ j = 7 := by omega
    rcases hj' with rfl | rfl | rfl | rfl | rfl | rfl | rfl | rfl <;> (injection hx with hx; subst hx; rw [key]; simp; omega)
  by_cases h9 : 172 ≤ op ∧ op ≤ 173
  · refine .inr (.inr (.inr (.inr (.inr (.inr (.inr (.inr (.inr (.inr (.inl ⟨grpOf_some (k := 9) (fun j hj x hx => ?_) (show grps[9]? = some (172, 2, 5, 127) from rfl) (by rw [key]; simp; omega), h9.1, h9.2⟩))))))))))
    have hj' : j = 0 ∨ j = 1 ∨ j = 2 ∨ j = 3 ∨ j = 4 ∨ j = 5 ∨ j = 6 ∨ j = 7 ∨ j = 8 := by omega
    rcases hj' with rfl | rfl | rfl | rfl | rfl | rfl | rfl | rfl | rfl <;> (injection hx with hx; subst hx; rw [key]; simp; omega)
  by_cases h10 : 192 ≤ op ∧ op ≤ 193
  · refine .inr (.inr (.inr (.inr (.inr (.inr (.inr (.inr (.inr (.inr (.inr (.inl ⟨grpOf_some (k := 10) (fun j hj x hx => ?_) (show grps[10]? = some (192, 2, 6, 127) from rfl) (by rw [key]; simp; omega), h10.1, h10.2⟩)))))))))))
    have hj' : j = 0 ∨ j = 1 ∨ j = 2 ∨ j = 3 ∨ j = 4 ∨ j = 5 ∨ j = 6 ∨ j = 7 ∨ j = 8 ∨ j = 9 := by omega
    rcases hj' with rfl | rfl | rfl | rfl | rfl | rfl | rfl | rfl | rfl | rfl <;> (injection hx with hx; subst hx; rw [key]; simp; omega)
  by_cases h11 : 194 ≤ op ∧ op ≤ 196
  · refine .inr (.inr (.inr (.inr (.inr (.inr (.inr (.inr (.inr (.inr (.inr (.inr (⟨grpOf_some (k := 11) (fun j hj x hx => ?_) (show grps[11]? = some (194, 3, 6, 126) from rfl) (by rw [key]; simp; omega), h11.1, h11.2⟩))))))))))))
    have hj' : j = 0 ∨ j = 1 ∨ j = 2 ∨ j = 3 ∨ j = 4 ∨ j = 5 ∨ j = 6 ∨ j = 7 ∨ j = 8 ∨ j = 9 ∨ j = 10 := by omega
    rcases hj' with rfl | rfl | rfl | rfl | rfl | rfl | rfl | rfl | rfl | rfl | rfl <;> (injection hx with hx; subst hx; rw [key]; simp; omega)
  refine .inl ⟨grpOf_none (fun j hj x hx => ?_), by omega, by omega, by omega, by omega, by omega⟩
  have hj' : j = 0 ∨ j = 1 ∨ j = 2 ∨ j = 3 ∨ j = 4 ∨ j = 5 ∨ j = 6 ∨ j = 7 ∨ j = 8 ∨ j = 9 ∨ j = 10 ∨ j = 11 := by omega
  rcases hj' with rfl | rfl | rfl | rfl | rfl | rfl | rfl | rfl | rfl | rfl | rfl | rfl <;> (injection hx with hx; subst hx; rw [key]; simp; omega)

def ofV (op : Int) : Int := match grpOf op with
  | none => 0
  | some g => g.2.2.2


set_option maxRecDepth 100000 in
set_option maxHeartbeats 4000000 in
theorem Of_any (op : Int) (w : World) : Calls Try.prog 97 #[.int .i64 op] w fun e w' => e = .returned (.int .i64 (ofV op)) ∧ w = w' := by
  rcases grp_cases op with ⟨hg, z1, z2, z3, z4, z5⟩ | ⟨hg, z1, z2⟩ | ⟨hg, z1, z2⟩ | ⟨hg, z1, z2⟩ | ⟨hg, z1, z2⟩ | ⟨hg, z1, z2⟩ | ⟨hg, z1, z2⟩ | ⟨hg, z1, z2⟩ | ⟨hg, z1, z2⟩ | ⟨hg, z1, z2⟩ | ⟨hg, z1, z2⟩ | ⟨hg, z1, z2⟩ | ⟨hg, z1, z2⟩
  · have HV := Lib.hid (show ofV op = 0 by simp [ofV, hg])
    have t0 : inB op 69 79 = false := inF (by omega)
    have t1 : inB op 103 120 = false := inF (by omega)
    have t2 : (op == 172) = false := eqF (by omega)
    have t3 : (op == 173) = false := eqF (by omega)
    have t4 : (op == 192) = false := eqF (by omega)
    have t5 : (op == 193) = false := eqF (by omega)
    have t6 : inB op 80 90 = false := inF (by omega)
    have t7 : inB op 121 138 = false := inF (by omega)
    have t8 : (op == 167) = false := eqF (by omega)
    have t9 : inB op 194 196 = false := inF (by omega)
    clear hg z1 z2 z3 z4 z5
    go_enter Try.func97, Try.ntmps97
    go_wp2_with (go_at_call 99; refine (in_any _ _ _ _).mono ?_; rintro e w1 ⟨rfl, rfl⟩)
    go_ret
    rw [HV.out]
    exact ⟨rfl, rfl⟩
  · have HV := Lib.hid (show ofV op = 127 by simp [ofV, hg])
    have t0 : inB op 69 79 = true := inT (by omega) (by omega)
    have t1 : inB op 103 120 = false := inF (by omega)
    have t2 : (op == 172) = false := eqF (by omega)
    have t3 : (op == 173) = false := eqF (by omega)
    have t4 : (op == 192) = false := eqF (by omega)
    have t5 : (op == 193) = false := eqF (by omega)
    have t6 : inB op 80 90 = false := inF (by omega)
    have t7 : inB op 121 138 = false := inF (by omega)
    have t8 : (op == 167) = false := eqF (by omega)
    have t9 : inB op 194 196 = false := inF (by omega)
    clear hg z1 z2
    go_enter Try.func97, Try.ntmps97
    go_wp2_with (go_at_call 99; refine (in_any _ _ _ _).mono ?_; rintro e w1 ⟨rfl, rfl⟩)
    go_ret
    rw [HV.out]
    exact ⟨rfl, rfl⟩
  · have HV := Lib.hid (show ofV op = 127 by simp [ofV, hg])
    have t0 : inB op 69 79 = true := inT (by omega) (by omega)
    have t1 : inB op 103 120 = false := inF (by omega)
    have t2 : (op == 172) = false := eqF (by omega)
    have t3 : (op == 173) = false := eqF (by omega)
    have t4 : (op == 192) = false := eqF (by omega)
    have t5 : (op == 193) = false := eqF (by omega)
    have t6 : inB op 80 90 = false := inF (by omega)
    have t7 : inB op 121 138 = false := inF (by omega)
    have t8 : (op == 167) = false := eqF (by omega)
    have t9 : inB op 194 196 = false := inF (by omega)
    clear hg z1 z2
    go_enter Try.func97, Try.ntmps97
    go_wp2_with (go_at_call 99; refine (in_any _ _ _ _).mono ?_; rintro e w1 ⟨rfl, rfl⟩)
    go_ret
    rw [HV.out]
    exact ⟨rfl, rfl⟩
  · have HV := Lib.hid (show ofV op = 126 by simp [ofV, hg])
    have t0 : inB op 69 79 = false := inF (by omega)
    have t1 : inB op 103 120 = false := inF (by omega)
    have t2 : (op == 172) = false := eqF (by omega)
    have t3 : (op == 173) = false := eqF (by omega)
    have t4 : (op == 192) = false := eqF (by omega)
    have t5 : (op == 193) = false := eqF (by omega)
    have t6 : inB op 80 90 = true := inT (by omega) (by omega)
    have t7 : inB op 121 138 = false := inF (by omega)
    have t8 : (op == 167) = false := eqF (by omega)
    have t9 : inB op 194 196 = false := inF (by omega)
    clear hg z1 z2
    go_enter Try.func97, Try.ntmps97
    go_wp2_with (go_at_call 99; refine (in_any _ _ _ _).mono ?_; rintro e w1 ⟨rfl, rfl⟩)
    go_ret
    rw [HV.out]
    exact ⟨rfl, rfl⟩
  · have HV := Lib.hid (show ofV op = 126 by simp [ofV, hg])
    have t0 : inB op 69 79 = false := inF (by omega)
    have t1 : inB op 103 120 = false := inF (by omega)
    have t2 : (op == 172) = false := eqF (by omega)
    have t3 : (op == 173) = false := eqF (by omega)
    have t4 : (op == 192) = false := eqF (by omega)
    have t5 : (op == 193) = false := eqF (by omega)
    have t6 : inB op 80 90 = true := inT (by omega) (by omega)
    have t7 : inB op 121 138 = false := inF (by omega)
    have t8 : (op == 167) = false := eqF (by omega)
    have t9 : inB op 194 196 = false := inF (by omega)
    clear hg z1 z2
    go_enter Try.func97, Try.ntmps97
    go_wp2_with (go_at_call 99; refine (in_any _ _ _ _).mono ?_; rintro e w1 ⟨rfl, rfl⟩)
    go_ret
    rw [HV.out]
    exact ⟨rfl, rfl⟩
  · have HV := Lib.hid (show ofV op = 127 by simp [ofV, hg])
    have t0 : inB op 69 79 = false := inF (by omega)
    have t1 : inB op 103 120 = true := inT (by omega) (by omega)
    have t2 : (op == 172) = false := eqF (by omega)
    have t3 : (op == 173) = false := eqF (by omega)
    have t4 : (op == 192) = false := eqF (by omega)
    have t5 : (op == 193) = false := eqF (by omega)
    have t6 : inB op 80 90 = false := inF (by omega)
    have t7 : inB op 121 138 = false := inF (by omega)
    have t8 : (op == 167) = false := eqF (by omega)
    have t9 : inB op 194 196 = false := inF (by omega)
    clear hg z1 z2
    go_enter Try.func97, Try.ntmps97
    go_wp2_with (go_at_call 99; refine (in_any _ _ _ _).mono ?_; rintro e w1 ⟨rfl, rfl⟩)
    go_ret
    rw [HV.out]
    exact ⟨rfl, rfl⟩
  · have HV := Lib.hid (show ofV op = 127 by simp [ofV, hg])
    have t0 : inB op 69 79 = false := inF (by omega)
    have t1 : inB op 103 120 = true := inT (by omega) (by omega)
    have t2 : (op == 172) = false := eqF (by omega)
    have t3 : (op == 173) = false := eqF (by omega)
    have t4 : (op == 192) = false := eqF (by omega)
    have t5 : (op == 193) = false := eqF (by omega)
    have t6 : inB op 80 90 = false := inF (by omega)
    have t7 : inB op 121 138 = false := inF (by omega)
    have t8 : (op == 167) = false := eqF (by omega)
    have t9 : inB op 194 196 = false := inF (by omega)
    clear hg z1 z2
    go_enter Try.func97, Try.ntmps97
    go_wp2_with (go_at_call 99; refine (in_any _ _ _ _).mono ?_; rintro e w1 ⟨rfl, rfl⟩)
    go_ret
    rw [HV.out]
    exact ⟨rfl, rfl⟩
  · have HV := Lib.hid (show ofV op = 126 by simp [ofV, hg])
    have t0 : inB op 69 79 = false := inF (by omega)
    have t1 : inB op 103 120 = false := inF (by omega)
    have t2 : (op == 172) = false := eqF (by omega)
    have t3 : (op == 173) = false := eqF (by omega)
    have t4 : (op == 192) = false := eqF (by omega)
    have t5 : (op == 193) = false := eqF (by omega)
    have t6 : inB op 80 90 = false := inF (by omega)
    have t7 : inB op 121 138 = true := inT (by omega) (by omega)
    have t8 : (op == 167) = false := eqF (by omega)
    have t9 : inB op 194 196 = false := inF (by omega)
    clear hg z1 z2
    go_enter Try.func97, Try.ntmps97
    go_wp2_with (go_at_call 99; refine (in_any _ _ _ _).mono ?_; rintro e w1 ⟨rfl, rfl⟩)
    go_ret
    rw [HV.out]
    exact ⟨rfl, rfl⟩
  · have HV := Lib.hid (show ofV op = 126 by simp [ofV, hg])
    have t0 : inB op 69 79 = false := inF (by omega)
    have t1 : inB op 103 120 = false := inF (by omega)
    have t2 : (op == 172) = false := eqF (by omega)
    have t3 : (op == 173) = false := eqF (by omega)
    have t4 : (op == 192) = false := eqF (by omega)
    have t5 : (op == 193) = false := eqF (by omega)
    have t6 : inB op 80 90 = false := inF (by omega)
    have t7 : inB op 121 138 = true := inT (by omega) (by omega)
    have t8 : (op == 167) = false := eqF (by omega)
    have t9 : inB op 194 196 = false := inF (by omega)
    clear hg z1 z2
    go_enter Try.func97, Try.ntmps97
    go_wp2_with (go_at_call 99; refine (in_any _ _ _ _).mono ?_; rintro e w1 ⟨rfl, rfl⟩)
    go_ret
    rw [HV.out]
    exact ⟨rfl, rfl⟩
  · have HV := Lib.hid (show ofV op = 126 by simp [ofV, hg])
    have t0 : inB op 69 79 = false := inF (by omega)
    have t1 : inB op 103 120 = false := inF (by omega)
    have t2 : (op == 172) = false := eqF (by omega)
    have t3 : (op == 173) = false := eqF (by omega)
    have t4 : (op == 192) = false := eqF (by omega)
    have t5 : (op == 193) = false := eqF (by omega)
    have t6 : inB op 80 90 = false := inF (by omega)
    have t7 : inB op 121 138 = false := inF (by omega)
    have t8 : (op == 167) = true := eqT (by omega) (by omega)
    have t9 : inB op 194 196 = false := inF (by omega)
    clear hg z1 z2
    go_enter Try.func97, Try.ntmps97
    go_wp2_with (go_at_call 99; refine (in_any _ _ _ _).mono ?_; rintro e w1 ⟨rfl, rfl⟩)
    go_ret
    rw [HV.out]
    exact ⟨rfl, rfl⟩
  · rcases (show op = 172 ∨ op = 173 by omega) with rfl | rfl
    · have HV := Lib.hid (show ofV 172 = 127 by simp [ofV, hg])
      clear hg z1 z2
      have t0 : inB 172 69 79 = false := by decide
      have t1 : inB 172 103 120 = false := by decide
      have t6 : inB 172 80 90 = false := by decide
      have t7 : inB 172 121 138 = false := by decide
      have t9 : inB 172 194 196 = false := by decide
      go_enter Try.func97, Try.ntmps97
      go_wp2_with (go_at_call 99; refine (in_any _ _ _ _).mono ?_; rintro e w1 ⟨rfl, rfl⟩)
      go_ret
      rw [HV.out]
      exact ⟨rfl, rfl⟩
    · have HV := Lib.hid (show ofV 173 = 127 by simp [ofV, hg])
      clear hg z1 z2
      have t0 : inB 173 69 79 = false := by decide
      have t1 : inB 173 103 120 = false := by decide
      have t6 : inB 173 80 90 = false := by decide
      have t7 : inB 173 121 138 = false := by decide
      have t9 : inB 173 194 196 = false := by decide
      go_enter Try.func97, Try.ntmps97
      go_wp2_with (go_at_call 99; refine (in_any _ _ _ _).mono ?_; rintro e w1 ⟨rfl, rfl⟩)
      go_ret
      rw [HV.out]
      exact ⟨rfl, rfl⟩
  · rcases (show op = 192 ∨ op = 193 by omega) with rfl | rfl
    · have HV := Lib.hid (show ofV 192 = 127 by simp [ofV, hg])
      clear hg z1 z2
      have t0 : inB 192 69 79 = false := by decide
      have t1 : inB 192 103 120 = false := by decide
      have t6 : inB 192 80 90 = false := by decide
      have t7 : inB 192 121 138 = false := by decide
      have t9 : inB 192 194 196 = false := by decide
      go_enter Try.func97, Try.ntmps97
      go_wp2_with (go_at_call 99; refine (in_any _ _ _ _).mono ?_; rintro e w1 ⟨rfl, rfl⟩)
      go_ret
      rw [HV.out]
      exact ⟨rfl, rfl⟩
    · have HV := Lib.hid (show ofV 193 = 127 by simp [ofV, hg])
      clear hg z1 z2
      have t0 : inB 193 69 79 = false := by decide
      have t1 : inB 193 103 120 = false := by decide
      have t6 : inB 193 80 90 = false := by decide
      have t7 : inB 193 121 138 = false := by decide
      have t9 : inB 193 194 196 = false := by decide
      go_enter Try.func97, Try.ntmps97
      go_wp2_with (go_at_call 99; refine (in_any _ _ _ _).mono ?_; rintro e w1 ⟨rfl, rfl⟩)
      go_ret
      rw [HV.out]
      exact ⟨rfl, rfl⟩
  · have HV := Lib.hid (show ofV op = 126 by simp [ofV, hg])
    have t0 : inB op 69 79 = false := inF (by omega)
    have t1 : inB op 103 120 = false := inF (by omega)
    have t2 : (op == 172) = false := eqF (by omega)
    have t3 : (op == 173) = false := eqF (by omega)
    have t4 : (op == 192) = false := eqF (by omega)
    have t5 : (op == 193) = false := eqF (by omega)
    have t6 : inB op 80 90 = false := inF (by omega)
    have t7 : inB op 121 138 = false := inF (by omega)
    have t8 : (op == 167) = false := eqF (by omega)
    have t9 : inB op 194 196 = true := inT (by omega) (by omega)
    clear hg z1 z2
    go_enter Try.func97, Try.ntmps97
    go_wp2_with (go_at_call 99; refine (in_any _ _ _ _).mono ?_; rintro e w1 ⟨rfl, rfl⟩)
    go_ret
    rw [HV.out]
    exact ⟨rfl, rfl⟩

def unB (op : Int) : Bool := match grpOf op with
  | none => false
  | some g => decide (g.2.2.1 ≠ 1 ∧ g.2.2.1 ≠ 3)
set_option maxRecDepth 100000 in
set_option maxHeartbeats 4000000 in
theorem Unary_any (op : Int) (w : World) (hs : grpOf op ≠ none) : Calls Try.prog 98 #[.int .i64 op] w fun e w' => e = .returned (.bool (unB op)) ∧ w = w' := by
  rcases grp_cases op with ⟨hg, z1, z2, z3, z4, z5⟩ | ⟨hg, z1, z2⟩ | ⟨hg, z1, z2⟩ | ⟨hg, z1, z2⟩ | ⟨hg, z1, z2⟩ | ⟨hg, z1, z2⟩ | ⟨hg, z1, z2⟩ | ⟨hg, z1, z2⟩ | ⟨hg, z1, z2⟩ | ⟨hg, z1, z2⟩ | ⟨hg, z1, z2⟩ | ⟨hg, z1, z2⟩ | ⟨hg, z1, z2⟩
  · exact absurd hg hs
  · have HV := Lib.hid (show unB op = true by simp [unB, hg])
    have t0 : (op == 69) = true := eqT (by omega) (by omega)
    have t1 : (op == 80) = false := eqF (by omega)
    have t2 : inB op 103 105 = false := inF (by omega)
    have t3 : inB op 121 123 = false := inF (by omega)
    have t4 : decide (167 ≤ op) = false := by simp; omega
    clear hs hg z1 z2
    go_enter Try.func98, Try.ntmps98
    go_wp2_with (go_at_call 99; refine (in_any _ _ _ _).mono ?_; rintro e w1 ⟨rfl, rfl⟩)
    go_ret
    rw [HV.out]
    exact ⟨rfl, rfl⟩
  · have HV := Lib.hid (show unB op = false by simp [unB, hg])
    have t0 : (op == 69) = false := eqF (by omega)
    have t1 : (op == 80) = false := eqF (by omega)
    have t2 : inB op 103 105 = false := inF (by omega)
    have t3 : inB op 121 123 = false := inF (by omega)
    have t4 : decide (167 ≤ op) = false := by simp; omega
    clear hs hg z1 z2
    go_enter Try.func98, Try.ntmps98
    go_wp2_with (go_at_call 99; refine (in_any _ _ _ _).mono ?_; rintro e w1 ⟨rfl, rfl⟩)
    go_ret
    rw [HV.out]
    exact ⟨rfl, rfl⟩
  · have HV := Lib.hid (show unB op = true by simp [unB, hg])
    have t0 : (op == 69) = false := eqF (by omega)
    have t1 : (op == 80) = true := eqT (by omega) (by omega)
    have t2 : inB op 103 105 = false := inF (by omega)
    have t3 : inB op 121 123 = false := inF (by omega)
    have t4 : decide (167 ≤ op) = false := by simp; omega
    clear hs hg z1 z2
    go_enter Try.func98, Try.ntmps98
    go_wp2_with (go_at_call 99; refine (in_any _ _ _ _).mono ?_; rintro e w1 ⟨rfl, rfl⟩)
    go_ret
    rw [HV.out]
    exact ⟨rfl, rfl⟩
  · have HV := Lib.hid (show unB op = false by simp [unB, hg])
    have t0 : (op == 69) = false := eqF (by omega)
    have t1 : (op == 80) = false := eqF (by omega)
    have t2 : inB op 103 105 = false := inF (by omega)
    have t3 : inB op 121 123 = false := inF (by omega)
    have t4 : decide (167 ≤ op) = false := by simp; omega
    clear hs hg z1 z2
    go_enter Try.func98, Try.ntmps98
    go_wp2_with (go_at_call 99; refine (in_any _ _ _ _).mono ?_; rintro e w1 ⟨rfl, rfl⟩)
    go_ret
    rw [HV.out]
    exact ⟨rfl, rfl⟩
  · have HV := Lib.hid (show unB op = true by simp [unB, hg])
    have t0 : (op == 69) = false := eqF (by omega)
    have t1 : (op == 80) = false := eqF (by omega)
    have t2 : inB op 103 105 = true := inT (by omega) (by omega)
    have t3 : inB op 121 123 = false := inF (by omega)
    have t4 : decide (167 ≤ op) = false := by simp; omega
    clear hs hg z1 z2
    go_enter Try.func98, Try.ntmps98
    go_wp2_with (go_at_call 99; refine (in_any _ _ _ _).mono ?_; rintro e w1 ⟨rfl, rfl⟩)
    go_ret
    rw [HV.out]
    exact ⟨rfl, rfl⟩
  · have HV := Lib.hid (show unB op = false by simp [unB, hg])
    have t0 : (op == 69) = false := eqF (by omega)
    have t1 : (op == 80) = false := eqF (by omega)
    have t2 : inB op 103 105 = false := inF (by omega)
    have t3 : inB op 121 123 = false := inF (by omega)
    have t4 : decide (167 ≤ op) = false := by simp; omega
    clear hs hg z1 z2
    go_enter Try.func98, Try.ntmps98
    go_wp2_with (go_at_call 99; refine (in_any _ _ _ _).mono ?_; rintro e w1 ⟨rfl, rfl⟩)
    go_ret
    rw [HV.out]
    exact ⟨rfl, rfl⟩
  · have HV := Lib.hid (show unB op = true by simp [unB, hg])
    have t0 : (op == 69) = false := eqF (by omega)
    have t1 : (op == 80) = false := eqF (by omega)
    have t2 : inB op 103 105 = false := inF (by omega)
    have t3 : inB op 121 123 = true := inT (by omega) (by omega)
    have t4 : decide (167 ≤ op) = false := by simp; omega
    clear hs hg z1 z2
    go_enter Try.func98, Try.ntmps98
    go_wp2_with (go_at_call 99; refine (in_any _ _ _ _).mono ?_; rintro e w1 ⟨rfl, rfl⟩)
    go_ret
    rw [HV.out]
    exact ⟨rfl, rfl⟩
  · have HV := Lib.hid (show unB op = false by simp [unB, hg])
    have t0 : (op == 69) = false := eqF (by omega)
    have t1 : (op == 80) = false := eqF (by omega)
    have t2 : inB op 103 105 = false := inF (by omega)
    have t3 : inB op 121 123 = false := inF (by omega)
    have t4 : decide (167 ≤ op) = false := by simp; omega
    clear hs hg z1 z2
    go_enter Try.func98, Try.ntmps98
    go_wp2_with (go_at_call 99; refine (in_any _ _ _ _).mono ?_; rintro e w1 ⟨rfl, rfl⟩)
    go_ret
    rw [HV.out]
    exact ⟨rfl, rfl⟩
  · have HV := Lib.hid (show unB op = true by simp [unB, hg])
    have t0 : (op == 69) = false := eqF (by omega)
    have t1 : (op == 80) = false := eqF (by omega)
    have t2 : inB op 103 105 = false := inF (by omega)
    have t3 : inB op 121 123 = false := inF (by omega)
    have t4 : decide (167 ≤ op) = true := by simp; omega
    clear hs hg z1 z2
    go_enter Try.func98, Try.ntmps98
    go_wp2_with (go_at_call 99; refine (in_any _ _ _ _).mono ?_; rintro e w1 ⟨rfl, rfl⟩)
    go_ret
    rw [HV.out]
    exact ⟨rfl, rfl⟩
  · have HV := Lib.hid (show unB op = true by simp [unB, hg])
    have t0 : (op == 69) = false := eqF (by omega)
    have t1 : (op == 80) = false := eqF (by omega)
    have t2 : inB op 103 105 = false := inF (by omega)
    have t3 : inB op 121 123 = false := inF (by omega)
    have t4 : decide (167 ≤ op) = true := by simp; omega
    clear hs hg z1 z2
    go_enter Try.func98, Try.ntmps98
    go_wp2_with (go_at_call 99; refine (in_any _ _ _ _).mono ?_; rintro e w1 ⟨rfl, rfl⟩)
    go_ret
    rw [HV.out]
    exact ⟨rfl, rfl⟩
  · have HV := Lib.hid (show unB op = true by simp [unB, hg])
    have t0 : (op == 69) = false := eqF (by omega)
    have t1 : (op == 80) = false := eqF (by omega)
    have t2 : inB op 103 105 = false := inF (by omega)
    have t3 : inB op 121 123 = false := inF (by omega)
    have t4 : decide (167 ≤ op) = true := by simp; omega
    clear hs hg z1 z2
    go_enter Try.func98, Try.ntmps98
    go_wp2_with (go_at_call 99; refine (in_any _ _ _ _).mono ?_; rintro e w1 ⟨rfl, rfl⟩)
    go_ret
    rw [HV.out]
    exact ⟨rfl, rfl⟩
  · have HV := Lib.hid (show unB op = true by simp [unB, hg])
    have t0 : (op == 69) = false := eqF (by omega)
    have t1 : (op == 80) = false := eqF (by omega)
    have t2 : inB op 103 105 = false := inF (by omega)
    have t3 : inB op 121 123 = false := inF (by omega)
    have t4 : decide (167 ≤ op) = true := by simp; omega
    clear hs hg z1 z2
    go_enter Try.func98, Try.ntmps98
    go_wp2_with (go_at_call 99; refine (in_any _ _ _ _).mono ?_; rintro e w1 ⟨rfl, rfl⟩)
    go_ret
    rw [HV.out]
    exact ⟨rfl, rfl⟩

set_option maxRecDepth 100000 in
set_option maxHeartbeats 4000000 in
theorem RSig_any (op : Int) (w : World) : Calls Try.prog 86 #[.int .i64 op] w (SigPost op w) := by
  rcases grp_cases op with ⟨hg, z1, z2, z3, z4, z5⟩ | ⟨hg, z1, z2⟩ | ⟨hg, z1, z2⟩ | ⟨hg, z1, z2⟩ | ⟨hg, z1, z2⟩ | ⟨hg, z1, z2⟩ | ⟨hg, z1, z2⟩ | ⟨hg, z1, z2⟩ | ⟨hg, z1, z2⟩ | ⟨hg, z1, z2⟩ | ⟨hg, z1, z2⟩ | ⟨hg, z1, z2⟩ | ⟨hg, z1, z2⟩
  · have HV := Lib.hid (show ofV op = 0 by simp [ofV, hg])
    have HL := Lib.hid (show sigL op = [] by simp [sigL, hg])
    have HO := Lib.hid (show sigO op = 0 by simp [sigO, hg])
    have HI := Lib.hid (show (grpOf op).isSome = false by simp [hg])
    clear hg z1 z2 z3 z4 z5
    go_enter Try.func86, Try.ntmps86
    go_wp2_with fail
    refine (Of_any op _).mono ?_
    rintro e w1 ⟨rfl, rfl⟩
    rw [HV.out]
    go_wp2
    go_ret3
    unfold SigPost
    rw [HL.out, HO.out, HI.out]
    exact ⟨none, 0, rfl, World.ownsRow_nil _ _ _ _, Below.refl _ _⟩
  · have HV := Lib.hid (show ofV op = 127 by simp [ofV, hg])
    have HU := Lib.hid (show unB op = true by simp [unB, hg])
    have HL := Lib.hid (show sigL op = [127] by simp [sigL, hg])
    have HO := Lib.hid (show sigO op = 127 by simp [sigO, hg])
    have HI := Lib.hid (show (grpOf op).isSome = true by simp [hg])
    have HN := Lib.hid (show grpOf op ≠ none by simp [hg])
    have t0 : inB op 69 90 = true := inT (by omega) (by omega)
    have t1 : (op == 167) = false := eqF (by omega)
    have t2 : (op == 172) = false := eqF (by omega)
    have t3 : (op == 173) = false := eqF (by omega)
    clear hg z1 z2
    go_enter Try.func86, Try.ntmps86
    go_wp2_with fail
    refine (Of_any op _).mono ?_
    rintro e w1 ⟨rfl, rfl⟩
    rw [HV.out]
    go_wp2_with fail
    refine (Unary_any op _ HN.out).mono ?_
    rintro e w1 ⟨rfl, rfl⟩
    rw [HU.out]
    go_wp2_with (go_at_call 99; refine (in_any _ _ _ _).mono ?_; rintro e w1 ⟨rfl, rfl⟩)
    go_ret3
    unfold SigPost
    rw [HL.out, HO.out, HI.out]
    exact ⟨_, _, rfl, own_head 127, (Below.refl _ _).alloc (Nat.le_refl _) _⟩
  · have HV := Lib.hid (show ofV op = 127 by simp [ofV, hg])
    have HU := Lib.hid (show unB op = false by simp [unB, hg])
    have HL := Lib.hid (show sigL op = [127, 127] by simp [sigL, hg])
    have HO := Lib.hid (show sigO op = 127 by simp [sigO, hg])
    have HI := Lib.hid (show (grpOf op).isSome = true by simp [hg])
    have HN := Lib.hid (show grpOf op ≠ none by simp [hg])
    have t0 : inB op 69 90 = true := inT (by omega) (by omega)
    have t1 : (op == 167) = false := eqF (by omega)
    have t2 : (op == 172) = false := eqF (by omega)
    have t3 : (op == 173) = false := eqF (by omega)
    clear hg z1 z2
    go_enter Try.func86, Try.ntmps86
    go_wp2_with fail
    refine (Of_any op _).mono ?_
    rintro e w1 ⟨rfl, rfl⟩
    rw [HV.out]
    go_wp2_with fail
    refine (Unary_any op _ HN.out).mono ?_
    rintro e w1 ⟨rfl, rfl⟩
    rw [HU.out]
    go_wp2_with (go_at_call 99; refine (in_any _ _ _ _).mono ?_; rintro e w1 ⟨rfl, rfl⟩)
    go_ret3
    unfold SigPost
    rw [HL.out, HO.out, HI.out]
    exact ⟨_, _, rfl, Blk.own (n := 2) (cs := #[.int .i64 127, .int .i64 127]) (Blk.newAt _ _ _ rfl) (Nat.le_refl _) rfl (by unfold maxLen; omega), (Below.refl _ _).alloc (Nat.le_refl _) _⟩
  · have HV := Lib.hid (show ofV op = 126 by simp [ofV, hg])
    have HU := Lib.hid (show unB op = true by simp [unB, hg])
    have HL := Lib.hid (show sigL op = [126] by simp [sigL, hg])
    have HO := Lib.hid (show sigO op = 127 by simp [sigO, hg])
    have HI := Lib.hid (show (grpOf op).isSome = true by simp [hg])
    have HN := Lib.hid (show grpOf op ≠ none by simp [hg])
    have t0 : inB op 69 90 = true := inT (by omega) (by omega)
    have t1 : (op == 167) = false := eqF (by omega)
    have t2 : (op == 172) = false := eqF (by omega)
    have t3 : (op == 173) = false := eqF (by omega)
    clear hg z1 z2
    go_enter Try.func86, Try.ntmps86
    go_wp2_with fail
    refine (Of_any op _).mono ?_
    rintro e w1 ⟨rfl, rfl⟩
    rw [HV.out]
    go_wp2_with fail
    refine (Unary_any op _ HN.out).mono ?_
    rintro e w1 ⟨rfl, rfl⟩
    rw [HU.out]
    go_wp2_with (go_at_call 99; refine (in_any _ _ _ _).mono ?_; rintro e w1 ⟨rfl, rfl⟩)
    go_ret3
    unfold SigPost
    rw [HL.out, HO.out, HI.out]
    exact ⟨_, _, rfl, own_head 126, (Below.refl _ _).alloc (Nat.le_refl _) _⟩
  · have HV := Lib.hid (show ofV op = 126 by simp [ofV, hg])
    have HU := Lib.hid (show unB op = false by simp [unB, hg])
    have HL := Lib.hid (show sigL op = [126, 126] by simp [sigL, hg])
    have HO := Lib.hid (show sigO op = 127 by simp [sigO, hg])
    have HI := Lib.hid (show (grpOf op).isSome = true by simp [hg])
    have HN := Lib.hid (show grpOf op ≠ none by simp [hg])
    have t0 : inB op 69 90 = true := inT (by omega) (by omega)
    have t1 : (op == 167) = false := eqF (by omega)
    have t2 : (op == 172) = false := eqF (by omega)
    have t3 : (op == 173) = false := eqF (by omega)
    clear hg z1 z2
    go_enter Try.func86, Try.ntmps86
    go_wp2_with fail
    refine (Of_any op _).mono ?_
    rintro e w1 ⟨rfl, rfl⟩
    rw [HV.out]
    go_wp2_with fail
    refine (Unary_any op _ HN.out).mono ?_
    rintro e w1 ⟨rfl, rfl⟩
    rw [HU.out]
    go_wp2_with (go_at_call 99; refine (in_any _ _ _ _).mono ?_; rintro e w1 ⟨rfl, rfl⟩)
    go_ret3
    unfold SigPost
    rw [HL.out, HO.out, HI.out]
    exact ⟨_, _, rfl, Blk.own (n := 2) (cs := #[.int .i64 126, .int .i64 126]) (Blk.newAt _ _ _ rfl) (Nat.le_refl _) rfl (by unfold maxLen; omega), (Below.refl _ _).alloc (Nat.le_refl _) _⟩
  · have HV := Lib.hid (show ofV op = 127 by simp [ofV, hg])
    have HU := Lib.hid (show unB op = true by simp [unB, hg])
    have HL := Lib.hid (show sigL op = [127] by simp [sigL, hg])
    have HO := Lib.hid (show sigO op = 127 by simp [sigO, hg])
    have HI := Lib.hid (show (grpOf op).isSome = true by simp [hg])
    have HN := Lib.hid (show grpOf op ≠ none by simp [hg])
    have t0 : inB op 69 90 = false := inF (by omega)
    have t1 : (op == 167) = false := eqF (by omega)
    have t2 : (op == 172) = false := eqF (by omega)
    have t3 : (op == 173) = false := eqF (by omega)
    clear hg z1 z2
    go_enter Try.func86, Try.ntmps86
    go_wp2_with fail
    refine (Of_any op _).mono ?_
    rintro e w1 ⟨rfl, rfl⟩
    rw [HV.out]
    go_wp2_with fail
    refine (Unary_any op _ HN.out).mono ?_
    rintro e w1 ⟨rfl, rfl⟩
    rw [HU.out]
    go_wp2_with (go_at_call 99; refine (in_any _ _ _ _).mono ?_; rintro e w1 ⟨rfl, rfl⟩)
    go_ret3
    unfold SigPost
    rw [HL.out, HO.out, HI.out]
    exact ⟨_, _, rfl, own_head 127, (Below.refl _ _).alloc (Nat.le_refl _) _⟩
  · have HV := Lib.hid (show ofV op = 127 by simp [ofV, hg])
    have HU := Lib.hid (show unB op = false by simp [unB, hg])
    have HL := Lib.hid (show sigL op = [127, 127] by simp [sigL, hg])
    have HO := Lib.hid (show sigO op = 127 by simp [sigO, hg])
    have HI := Lib.hid (show (grpOf op).isSome = true by simp [hg])
    have HN := Lib.hid (show grpOf op ≠ none by simp [hg])
    have t0 : inB op 69 90 = false := inF (by omega)
    have t1 : (op == 167) = false := eqF (by omega)
    have t2 : (op == 172) = false := eqF (by omega)
    have t3 : (op == 173) = false := eqF (by omega)
    clear hg z1 z2
    go_enter Try.func86, Try.ntmps86
    go_wp2_with fail
    refine (Of_any op _).mono ?_
    rintro e w1 ⟨rfl, rfl⟩
    rw [HV.out]
    go_wp2_with fail
    refine (Unary_any op _ HN.out).mono ?_
    rintro e w1 ⟨rfl, rfl⟩
    rw [HU.out]
    go_wp2_with (go_at_call 99; refine (in_any _ _ _ _).mono ?_; rintro e w1 ⟨rfl, rfl⟩)
    go_ret3
    unfold SigPost
    rw [HL.out, HO.out, HI.out]
    exact ⟨_, _, rfl, Blk.own (n := 2) (cs := #[.int .i64 127, .int .i64 127]) (Blk.newAt _ _ _ rfl) (Nat.le_refl _) rfl (by unfold maxLen; omega), (Below.refl _ _).alloc (Nat.le_refl _) _⟩
  · have HV := Lib.hid (show ofV op = 126 by simp [ofV, hg])
    have HU := Lib.hid (show unB op = true by simp [unB, hg])
    have HL := Lib.hid (show sigL op = [126] by simp [sigL, hg])
    have HO := Lib.hid (show sigO op = 126 by simp [sigO, hg])
    have HI := Lib.hid (show (grpOf op).isSome = true by simp [hg])
    have HN := Lib.hid (show grpOf op ≠ none by simp [hg])
    have t0 : inB op 69 90 = false := inF (by omega)
    have t1 : (op == 167) = false := eqF (by omega)
    have t2 : (op == 172) = false := eqF (by omega)
    have t3 : (op == 173) = false := eqF (by omega)
    clear hg z1 z2
    go_enter Try.func86, Try.ntmps86
    go_wp2_with fail
    refine (Of_any op _).mono ?_
    rintro e w1 ⟨rfl, rfl⟩
    rw [HV.out]
    go_wp2_with fail
    refine (Unary_any op _ HN.out).mono ?_
    rintro e w1 ⟨rfl, rfl⟩
    rw [HU.out]
    go_wp2_with (go_at_call 99; refine (in_any _ _ _ _).mono ?_; rintro e w1 ⟨rfl, rfl⟩)
    go_ret3
    unfold SigPost
    rw [HL.out, HO.out, HI.out]
    exact ⟨_, _, rfl, own_head 126, (Below.refl _ _).alloc (Nat.le_refl _) _⟩
  · have HV := Lib.hid (show ofV op = 126 by simp [ofV, hg])
    have HU := Lib.hid (show unB op = false by simp [unB, hg])
    have HL := Lib.hid (show sigL op = [126, 126] by simp [sigL, hg])
    have HO := Lib.hid (show sigO op = 126 by simp [sigO, hg])
    have HI := Lib.hid (show (grpOf op).isSome = true by simp [hg])
    have HN := Lib.hid (show grpOf op ≠ none by simp [hg])
    have t0 : inB op 69 90 = false := inF (by omega)
    have t1 : (op == 167) = false := eqF (by omega)
    have t2 : (op == 172) = false := eqF (by omega)
    have t3 : (op == 173) = false := eqF (by omega)
    clear hg z1 z2
    go_enter Try.func86, Try.ntmps86
    go_wp2_with fail
    refine (Of_any op _).mono ?_
    rintro e w1 ⟨rfl, rfl⟩
    rw [HV.out]
    go_wp2_with fail
    refine (Unary_any op _ HN.out).mono ?_
    rintro e w1 ⟨rfl, rfl⟩
    rw [HU.out]
    go_wp2_with (go_at_call 99; refine (in_any _ _ _ _).mono ?_; rintro e w1 ⟨rfl, rfl⟩)
    go_ret3
    unfold SigPost
    rw [HL.out, HO.out, HI.out]
    exact ⟨_, _, rfl, Blk.own (n := 2) (cs := #[.int .i64 126, .int .i64 126]) (Blk.newAt _ _ _ rfl) (Nat.le_refl _) rfl (by unfold maxLen; omega), (Below.refl _ _).alloc (Nat.le_refl _) _⟩
  · have HV := Lib.hid (show ofV op = 126 by simp [ofV, hg])
    have HU := Lib.hid (show unB op = true by simp [unB, hg])
    have HL := Lib.hid (show sigL op = [126] by simp [sigL, hg])
    have HO := Lib.hid (show sigO op = 127 by simp [sigO, hg])
    have HI := Lib.hid (show (grpOf op).isSome = true by simp [hg])
    have HN := Lib.hid (show grpOf op ≠ none by simp [hg])
    have t0 : inB op 69 90 = false := inF (by omega)
    have t1 : (op == 167) = true := eqT (by omega) (by omega)
    have t2 : (op == 172) = false := eqF (by omega)
    have t3 : (op == 173) = false := eqF (by omega)
    clear hg z1 z2
    go_enter Try.func86, Try.ntmps86
    go_wp2_with fail
    refine (Of_any op _).mono ?_
    rintro e w1 ⟨rfl, rfl⟩
    rw [HV.out]
    go_wp2_with fail
    refine (Unary_any op _ HN.out).mono ?_
    rintro e w1 ⟨rfl, rfl⟩
    rw [HU.out]
    go_wp2_with (go_at_call 99; refine (in_any _ _ _ _).mono ?_; rintro e w1 ⟨rfl, rfl⟩)
    go_ret3
    unfold SigPost
    rw [HL.out, HO.out, HI.out]
    exact ⟨_, _, rfl, own_head 126, (Below.refl _ _).alloc (Nat.le_refl _) _⟩
  · rcases (show op = 172 ∨ op = 173 by omega) with rfl | rfl
    · have HV := Lib.hid (show ofV 172 = 127 by simp [ofV, hg])
      have HU := Lib.hid (show unB 172 = true by simp [unB, hg])
      have HL := Lib.hid (show sigL 172 = [127] by simp [sigL, hg])
      have HO := Lib.hid (show sigO 172 = 126 by simp [sigO, hg])
      have HI := Lib.hid (show (grpOf 172).isSome = true by simp [hg])
      have HN := Lib.hid (show grpOf 172 ≠ none by simp [hg])
      have t0 : inB 172 69 90 = false := by decide
      clear hg z1 z2
      go_enter Try.func86, Try.ntmps86
      go_wp2_with fail
      refine (Of_any 172 _).mono ?_
      rintro e w1 ⟨rfl, rfl⟩
      rw [HV.out]
      go_wp2_with fail
      refine (Unary_any 172 _ HN.out).mono ?_
      rintro e w1 ⟨rfl, rfl⟩
      rw [HU.out]
      go_wp2_with (go_at_call 99; refine (in_any _ _ _ _).mono ?_; rintro e w1 ⟨rfl, rfl⟩)
      go_ret3
      unfold SigPost
      rw [HL.out, HO.out, HI.out]
      exact ⟨_, _, rfl, own_head 127, (Below.refl _ _).alloc (Nat.le_refl _) _⟩
    · have HV := Lib.hid (show ofV 173 = 127 by simp [ofV, hg])
      have HU := Lib.hid (show unB 173 = true by simp [unB, hg])
      have HL := Lib.hid (show sigL 173 = [127] by simp [sigL, hg])
      have HO := Lib.hid (show sigO 173 = 126 by simp [sigO, hg])
      have HI := Lib.hid (show (grpOf 173).isSome = true by simp [hg])
      have HN := Lib.hid (show grpOf 173 ≠ none by simp [hg])
      have t0 : inB 173 69 90 = false := by decide
      clear hg z1 z2
      go_enter Try.func86, Try.ntmps86
      go_wp2_with fail
      refine (Of_any 173 _).mono ?_
      rintro e w1 ⟨rfl, rfl⟩
      rw [HV.out]
      go_wp2_with fail
      refine (Unary_any 173 _ HN.out).mono ?_
      rintro e w1 ⟨rfl, rfl⟩
      rw [HU.out]
      go_wp2_with (go_at_call 99; refine (in_any _ _ _ _).mono ?_; rintro e w1 ⟨rfl, rfl⟩)
      go_ret3
      unfold SigPost
      rw [HL.out, HO.out, HI.out]
      exact ⟨_, _, rfl, own_head 127, (Below.refl _ _).alloc (Nat.le_refl _) _⟩
  · have HV := Lib.hid (show ofV op = 127 by simp [ofV, hg])
    have HU := Lib.hid (show unB op = true by simp [unB, hg])
    have HL := Lib.hid (show sigL op = [127] by simp [sigL, hg])
    have HO := Lib.hid (show sigO op = 127 by simp [sigO, hg])
    have HI := Lib.hid (show (grpOf op).isSome = true by simp [hg])
    have HN := Lib.hid (show grpOf op ≠ none by simp [hg])
    have t0 : inB op 69 90 = false := inF (by omega)
    have t1 : (op == 167) = false := eqF (by omega)
    have t2 : (op == 172) = false := eqF (by omega)
    have t3 : (op == 173) = false := eqF (by omega)
    clear hg z1 z2
    go_enter Try.func86, Try.ntmps86
    go_wp2_with fail
    refine (Of_any op _).mono ?_
    rintro e w1 ⟨rfl, rfl⟩
    rw [HV.out]
    go_wp2_with fail
    refine (Unary_any op _ HN.out).mono ?_
    rintro e w1 ⟨rfl, rfl⟩
    rw [HU.out]
    go_wp2_with (go_at_call 99; refine (in_any _ _ _ _).mono ?_; rintro e w1 ⟨rfl, rfl⟩)
    go_ret3
    unfold SigPost
    rw [HL.out, HO.out, HI.out]
    exact ⟨_, _, rfl, own_head 127, (Below.refl _ _).alloc (Nat.le_refl _) _⟩
  · have HV := Lib.hid (show ofV op = 126 by simp [ofV, hg])
    have HU := Lib.hid (show unB op = true by simp [unB, hg])
    have HL := Lib.hid (show sigL op = [126] by simp [sigL, hg])
    have HO := Lib.hid (show sigO op = 126 by simp [sigO, hg])
    have HI := Lib.hid (show (grpOf op).isSome = true by simp [hg])
    have HN := Lib.hid (show grpOf op ≠ none by simp [hg])
    have t0 : inB op 69 90 = false := inF (by omega)
    have t1 : (op == 167) = false := eqF (by omega)
    have t2 : (op == 172) = false := eqF (by omega)
    have t3 : (op == 173) = false := eqF (by omega)
    clear hg z1 z2
    go_enter Try.func86, Try.ntmps86
    go_wp2_with fail
    refine (Of_any op _).mono ?_
    rintro e w1 ⟨rfl, rfl⟩
    rw [HV.out]
    go_wp2_with fail
    refine (Unary_any op _ HN.out).mono ?_
    rintro e w1 ⟨rfl, rfl⟩
    rw [HU.out]
    go_wp2_with (go_at_call 99; refine (in_any _ _ _ _).mono ?_; rintro e w1 ⟨rfl, rfl⟩)
    go_ret3
    unfold SigPost
    rw [HL.out, HO.out, HI.out]
    exact ⟨_, _, rfl, own_head 126, (Below.refl _ _).alloc (Nat.le_refl _) _⟩
end Go.Proofs.Ytkfnnmdghibjbaa
