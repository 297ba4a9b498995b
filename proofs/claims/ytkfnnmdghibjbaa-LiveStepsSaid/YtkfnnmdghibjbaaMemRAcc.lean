/-
  What the reference's Access and Signed answer. Printed by racc.py.
  Conditions: none.
-/
import Derived.Test.YtkfnnmdghibjbaaMemAcc
namespace Go.Proofs.Ytkfnnmdghibjbaa
open Go.RowKit Go.Bk Go.Bk.Mem

theorem acc_40 : acc 40 = some (127, 4, false, false) := by kernel_rfl
theorem acc_41 : acc 41 = some (126, 8, false, false) := by kernel_rfl
theorem acc_44 : acc 44 = some (127, 1, false, true) := by kernel_rfl
theorem acc_45 : acc 45 = some (127, 1, false, false) := by kernel_rfl
theorem acc_46 : acc 46 = some (127, 2, false, true) := by kernel_rfl
theorem acc_47 : acc 47 = some (127, 2, false, false) := by kernel_rfl
theorem acc_48 : acc 48 = some (126, 1, false, true) := by kernel_rfl
theorem acc_49 : acc 49 = some (126, 1, false, false) := by kernel_rfl
theorem acc_50 : acc 50 = some (126, 2, false, true) := by kernel_rfl
theorem acc_51 : acc 51 = some (126, 2, false, false) := by kernel_rfl
theorem acc_52 : acc 52 = some (126, 4, false, true) := by kernel_rfl
theorem acc_53 : acc 53 = some (126, 4, false, false) := by kernel_rfl
theorem acc_54 : acc 54 = some (127, 4, true, false) := by kernel_rfl
theorem acc_55 : acc 55 = some (126, 8, true, false) := by kernel_rfl
theorem acc_58 : acc 58 = some (127, 1, true, false) := by kernel_rfl
theorem acc_59 : acc 59 = some (127, 2, true, false) := by kernel_rfl
theorem acc_60 : acc 60 = some (126, 1, true, false) := by kernel_rfl
theorem acc_61 : acc 61 = some (126, 2, true, false) := by kernel_rfl
theorem acc_62 : acc 62 = some (126, 4, true, false) := by kernel_rfl

/-- an operator is one of the nineteen, or none of them -/
theorem acc_split {Q : Int → Prop} (h40 : Q 40) (h41 : Q 41) (h44 : Q 44) (h45 : Q 45) (h46 : Q 46) (h47 : Q 47) (h48 : Q 48) (h49 : Q 49) (h50 : Q 50) (h51 : Q 51) (h52 : Q 52) (h53 : Q 53) (h54 : Q 54) (h55 : Q 55) (h58 : Q 58) (h59 : Q 59) (h60 : Q 60) (h61 : Q 61) (h62 : Q 62) (hn : ∀ op, (op == 40) = false → (op == 41) = false → (op == 44) = false → (op == 45) = false → (op == 46) = false → (op == 47) = false → (op == 48) = false → (op == 49) = false → (op == 50) = false → (op == 51) = false → (op == 52) = false → (op == 53) = false → (op == 54) = false → (op == 55) = false → (op == 58) = false → (op == 59) = false → (op == 60) = false → (op == 61) = false → (op == 62) = false → Q op) (op : Int) : Q op := by
  by_cases g40 : op = 40
  · subst g40; exact h40
  by_cases g41 : op = 41
  · subst g41; exact h41
  by_cases g44 : op = 44
  · subst g44; exact h44
  by_cases g45 : op = 45
  · subst g45; exact h45
  by_cases g46 : op = 46
  · subst g46; exact h46
  by_cases g47 : op = 47
  · subst g47; exact h47
  by_cases g48 : op = 48
  · subst g48; exact h48
  by_cases g49 : op = 49
  · subst g49; exact h49
  by_cases g50 : op = 50
  · subst g50; exact h50
  by_cases g51 : op = 51
  · subst g51; exact h51
  by_cases g52 : op = 52
  · subst g52; exact h52
  by_cases g53 : op = 53
  · subst g53; exact h53
  by_cases g54 : op = 54
  · subst g54; exact h54
  by_cases g55 : op = 55
  · subst g55; exact h55
  by_cases g58 : op = 58
  · subst g58; exact h58
  by_cases g59 : op = 59
  · subst g59; exact h59
  by_cases g60 : op = 60
  · subst g60; exact h60
  by_cases g61 : op = 61
  · subst g61; exact h61
  by_cases g62 : op = 62
  · subst g62; exact h62
  exact hn op (beq_false_of_ne g40) (beq_false_of_ne g41) (beq_false_of_ne g44) (beq_false_of_ne g45) (beq_false_of_ne g46) (beq_false_of_ne g47) (beq_false_of_ne g48) (beq_false_of_ne g49) (beq_false_of_ne g50) (beq_false_of_ne g51) (beq_false_of_ne g52) (beq_false_of_ne g53) (beq_false_of_ne g54) (beq_false_of_ne g55) (beq_false_of_ne g58) (beq_false_of_ne g59) (beq_false_of_ne g60) (beq_false_of_ne g61) (beq_false_of_ne g62)

theorem acc_off {op : Int} (h40 : (op == 40) = false) (h41 : (op == 41) = false) (h44 : (op == 44) = false) (h45 : (op == 45) = false) (h46 : (op == 46) = false) (h47 : (op == 47) = false) (h48 : (op == 48) = false) (h49 : (op == 49) = false) (h50 : (op == 50) = false) (h51 : (op == 51) = false) (h52 : (op == 52) = false) (h53 : (op == 53) = false) (h54 : (op == 54) = false) (h55 : (op == 55) = false) (h58 : (op == 58) = false) (h59 : (op == 59) = false) (h60 : (op == 60) = false) (h61 : (op == 61) = false) (h62 : (op == 62) = false) : acc op = none := by
  simp only [beq_eq_false_iff_ne, ne_eq] at *
  simp [acc, rowsT, *]

set_option maxHeartbeats 1000000 in
theorem refAcc_40 (w : World) : Calls Try.prog 87 #[.int .i64 40] w fun e w' => e = .returned (.tuple #[.int .i64 127, .int .i64 4, .bool false, .bool true]) ∧ w = w' := by
  go_enter Try.func87, Try.ntmps87
  go_wp2
  refine bodyPost_ret (results_tmp4 rfl _ _ _) rfl ⟨rfl, rfl⟩

set_option maxHeartbeats 1000000 in
theorem refAcc_41 (w : World) : Calls Try.prog 87 #[.int .i64 41] w fun e w' => e = .returned (.tuple #[.int .i64 126, .int .i64 8, .bool false, .bool true]) ∧ w = w' := by
  go_enter Try.func87, Try.ntmps87
  go_wp2
  refine bodyPost_ret (results_tmp4 rfl _ _ _) rfl ⟨rfl, rfl⟩

set_option maxHeartbeats 1000000 in
theorem refAcc_44 (w : World) : Calls Try.prog 87 #[.int .i64 44] w fun e w' => e = .returned (.tuple #[.int .i64 127, .int .i64 1, .bool false, .bool true]) ∧ w = w' := by
  go_enter Try.func87, Try.ntmps87
  go_wp2
  refine bodyPost_ret (results_tmp4 rfl _ _ _) rfl ⟨rfl, rfl⟩

set_option maxHeartbeats 1000000 in
theorem refAcc_45 (w : World) : Calls Try.prog 87 #[.int .i64 45] w fun e w' => e = .returned (.tuple #[.int .i64 127, .int .i64 1, .bool false, .bool true]) ∧ w = w' := by
  go_enter Try.func87, Try.ntmps87
  go_wp2
  refine bodyPost_ret (results_tmp4 rfl _ _ _) rfl ⟨rfl, rfl⟩

set_option maxHeartbeats 1000000 in
theorem refAcc_46 (w : World) : Calls Try.prog 87 #[.int .i64 46] w fun e w' => e = .returned (.tuple #[.int .i64 127, .int .i64 2, .bool false, .bool true]) ∧ w = w' := by
  go_enter Try.func87, Try.ntmps87
  go_wp2
  refine bodyPost_ret (results_tmp4 rfl _ _ _) rfl ⟨rfl, rfl⟩

set_option maxHeartbeats 1000000 in
theorem refAcc_47 (w : World) : Calls Try.prog 87 #[.int .i64 47] w fun e w' => e = .returned (.tuple #[.int .i64 127, .int .i64 2, .bool false, .bool true]) ∧ w = w' := by
  go_enter Try.func87, Try.ntmps87
  go_wp2
  refine bodyPost_ret (results_tmp4 rfl _ _ _) rfl ⟨rfl, rfl⟩

set_option maxHeartbeats 1000000 in
theorem refAcc_48 (w : World) : Calls Try.prog 87 #[.int .i64 48] w fun e w' => e = .returned (.tuple #[.int .i64 126, .int .i64 1, .bool false, .bool true]) ∧ w = w' := by
  go_enter Try.func87, Try.ntmps87
  go_wp2
  refine bodyPost_ret (results_tmp4 rfl _ _ _) rfl ⟨rfl, rfl⟩

set_option maxHeartbeats 1000000 in
theorem refAcc_49 (w : World) : Calls Try.prog 87 #[.int .i64 49] w fun e w' => e = .returned (.tuple #[.int .i64 126, .int .i64 1, .bool false, .bool true]) ∧ w = w' := by
  go_enter Try.func87, Try.ntmps87
  go_wp2
  refine bodyPost_ret (results_tmp4 rfl _ _ _) rfl ⟨rfl, rfl⟩

set_option maxHeartbeats 1000000 in
theorem refAcc_50 (w : World) : Calls Try.prog 87 #[.int .i64 50] w fun e w' => e = .returned (.tuple #[.int .i64 126, .int .i64 2, .bool false, .bool true]) ∧ w = w' := by
  go_enter Try.func87, Try.ntmps87
  go_wp2
  refine bodyPost_ret (results_tmp4 rfl _ _ _) rfl ⟨rfl, rfl⟩

set_option maxHeartbeats 1000000 in
theorem refAcc_51 (w : World) : Calls Try.prog 87 #[.int .i64 51] w fun e w' => e = .returned (.tuple #[.int .i64 126, .int .i64 2, .bool false, .bool true]) ∧ w = w' := by
  go_enter Try.func87, Try.ntmps87
  go_wp2
  refine bodyPost_ret (results_tmp4 rfl _ _ _) rfl ⟨rfl, rfl⟩

set_option maxHeartbeats 1000000 in
theorem refAcc_52 (w : World) : Calls Try.prog 87 #[.int .i64 52] w fun e w' => e = .returned (.tuple #[.int .i64 126, .int .i64 4, .bool false, .bool true]) ∧ w = w' := by
  go_enter Try.func87, Try.ntmps87
  go_wp2
  refine bodyPost_ret (results_tmp4 rfl _ _ _) rfl ⟨rfl, rfl⟩

set_option maxHeartbeats 1000000 in
theorem refAcc_53 (w : World) : Calls Try.prog 87 #[.int .i64 53] w fun e w' => e = .returned (.tuple #[.int .i64 126, .int .i64 4, .bool false, .bool true]) ∧ w = w' := by
  go_enter Try.func87, Try.ntmps87
  go_wp2
  refine bodyPost_ret (results_tmp4 rfl _ _ _) rfl ⟨rfl, rfl⟩

set_option maxHeartbeats 1000000 in
theorem refAcc_54 (w : World) : Calls Try.prog 87 #[.int .i64 54] w fun e w' => e = .returned (.tuple #[.int .i64 127, .int .i64 4, .bool true, .bool true]) ∧ w = w' := by
  go_enter Try.func87, Try.ntmps87
  go_wp2
  refine bodyPost_ret (results_tmp4 rfl _ _ _) rfl ⟨rfl, rfl⟩

set_option maxHeartbeats 1000000 in
theorem refAcc_55 (w : World) : Calls Try.prog 87 #[.int .i64 55] w fun e w' => e = .returned (.tuple #[.int .i64 126, .int .i64 8, .bool true, .bool true]) ∧ w = w' := by
  go_enter Try.func87, Try.ntmps87
  go_wp2
  refine bodyPost_ret (results_tmp4 rfl _ _ _) rfl ⟨rfl, rfl⟩

set_option maxHeartbeats 1000000 in
theorem refAcc_58 (w : World) : Calls Try.prog 87 #[.int .i64 58] w fun e w' => e = .returned (.tuple #[.int .i64 127, .int .i64 1, .bool true, .bool true]) ∧ w = w' := by
  go_enter Try.func87, Try.ntmps87
  go_wp2
  refine bodyPost_ret (results_tmp4 rfl _ _ _) rfl ⟨rfl, rfl⟩

set_option maxHeartbeats 1000000 in
theorem refAcc_59 (w : World) : Calls Try.prog 87 #[.int .i64 59] w fun e w' => e = .returned (.tuple #[.int .i64 127, .int .i64 2, .bool true, .bool true]) ∧ w = w' := by
  go_enter Try.func87, Try.ntmps87
  go_wp2
  refine bodyPost_ret (results_tmp4 rfl _ _ _) rfl ⟨rfl, rfl⟩

set_option maxHeartbeats 1000000 in
theorem refAcc_60 (w : World) : Calls Try.prog 87 #[.int .i64 60] w fun e w' => e = .returned (.tuple #[.int .i64 126, .int .i64 1, .bool true, .bool true]) ∧ w = w' := by
  go_enter Try.func87, Try.ntmps87
  go_wp2
  refine bodyPost_ret (results_tmp4 rfl _ _ _) rfl ⟨rfl, rfl⟩

set_option maxHeartbeats 1000000 in
theorem refAcc_61 (w : World) : Calls Try.prog 87 #[.int .i64 61] w fun e w' => e = .returned (.tuple #[.int .i64 126, .int .i64 2, .bool true, .bool true]) ∧ w = w' := by
  go_enter Try.func87, Try.ntmps87
  go_wp2
  refine bodyPost_ret (results_tmp4 rfl _ _ _) rfl ⟨rfl, rfl⟩

set_option maxHeartbeats 1000000 in
theorem refAcc_62 (w : World) : Calls Try.prog 87 #[.int .i64 62] w fun e w' => e = .returned (.tuple #[.int .i64 126, .int .i64 4, .bool true, .bool true]) ∧ w = w' := by
  go_enter Try.func87, Try.ntmps87
  go_wp2
  refine bodyPost_ret (results_tmp4 rfl _ _ _) rfl ⟨rfl, rfl⟩

set_option maxHeartbeats 1000000 in
theorem refAcc_off {op : Int} (w : World) (h40 : (op == 40) = false) (h41 : (op == 41) = false) (h44 : (op == 44) = false) (h45 : (op == 45) = false) (h46 : (op == 46) = false) (h47 : (op == 47) = false) (h48 : (op == 48) = false) (h49 : (op == 49) = false) (h50 : (op == 50) = false) (h51 : (op == 51) = false) (h52 : (op == 52) = false) (h53 : (op == 53) = false) (h54 : (op == 54) = false) (h55 : (op == 55) = false) (h58 : (op == 58) = false) (h59 : (op == 59) = false) (h60 : (op == 60) = false) (h61 : (op == 61) = false) (h62 : (op == 62) = false) : Calls Try.prog 87 #[.int .i64 op] w fun e w' => e = .returned (.tuple #[.int .i64 0, .int .i64 0, .bool false, .bool false]) ∧ w = w' := by
  go_enter Try.func87, Try.ntmps87
  go_wp2
  refine bodyPost_ret (results_tmp4 rfl _ _ _) rfl ⟨rfl, rfl⟩

theorem refAccess_any (op : Int) (w : World) : Calls Try.prog 87 #[.int .i64 op] w fun e w' => e = .returned (accTuple op) ∧ w = w' := by
  revert op
  refine acc_split (by rw [accTuple, acc_40]; exact refAcc_40 w) (by rw [accTuple, acc_41]; exact refAcc_41 w) (by rw [accTuple, acc_44]; exact refAcc_44 w) (by rw [accTuple, acc_45]; exact refAcc_45 w) (by rw [accTuple, acc_46]; exact refAcc_46 w) (by rw [accTuple, acc_47]; exact refAcc_47 w) (by rw [accTuple, acc_48]; exact refAcc_48 w) (by rw [accTuple, acc_49]; exact refAcc_49 w) (by rw [accTuple, acc_50]; exact refAcc_50 w) (by rw [accTuple, acc_51]; exact refAcc_51 w) (by rw [accTuple, acc_52]; exact refAcc_52 w) (by rw [accTuple, acc_53]; exact refAcc_53 w) (by rw [accTuple, acc_54]; exact refAcc_54 w) (by rw [accTuple, acc_55]; exact refAcc_55 w) (by rw [accTuple, acc_58]; exact refAcc_58 w) (by rw [accTuple, acc_59]; exact refAcc_59 w) (by rw [accTuple, acc_60]; exact refAcc_60 w) (by rw [accTuple, acc_61]; exact refAcc_61 w) (by rw [accTuple, acc_62]; exact refAcc_62 w) ?_
  intro op h40 h41 h44 h45 h46 h47 h48 h49 h50 h51 h52 h53 h54 h55 h58 h59 h60 h61 h62
  rw [accTuple, acc_off h40 h41 h44 h45 h46 h47 h48 h49 h50 h51 h52 h53 h54 h55 h58 h59 h60 h61 h62]
  exact refAcc_off w h40 h41 h44 h45 h46 h47 h48 h49 h50 h51 h52 h53 h54 h55 h58 h59 h60 h61 h62

/-- is what is read signed? -/
def sgn (op : Int) : Bool := match acc op with
  | some (_, _, _, sg) => sg
  | none => false

end Go.Proofs.Ytkfnnmdghibjbaa
