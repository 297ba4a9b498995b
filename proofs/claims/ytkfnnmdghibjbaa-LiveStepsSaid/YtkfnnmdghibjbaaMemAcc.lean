/-
  The table of accesses (mem.accesses): the map that it makes, and what mem.Access answers.
  Conditions: none.
-/
import Derived.Test.YtkfnnmdghibjbaaProg
import Derived.Test.YtkfnnmdghibjbaaIMap
namespace Go.Bk.Mem
open Go Go.Bk
def accV (k w : Int) (st sg : Bool) : Value := .agg #[.int .i64 k, .int .i64 w, .bool st, .bool sg]
/-- all accesses, by their byte -/
def rowsT : List (Int × Int × Int × Bool × Bool) := [
  (40, 127, 4, false, false),
  (41, 126, 8, false, false),
  (44, 127, 1, false, true),
  (45, 127, 1, false, false),
  (46, 127, 2, false, true),
  (47, 127, 2, false, false),
  (48, 126, 1, false, true),
  (49, 126, 1, false, false),
  (50, 126, 2, false, true),
  (51, 126, 2, false, false),
  (52, 126, 4, false, true),
  (53, 126, 4, false, false),
  (54, 127, 4, true, false),
  (55, 126, 8, true, false),
  (58, 127, 1, true, false),
  (59, 127, 2, true, false),
  (60, 126, 1, true, false),
  (61, 126, 2, true, false),
  (62, 126, 4, true, false)]
def table : List (Int × Value) := rowsT.map fun r => (r.1, accV r.2.1 r.2.2.1 r.2.2.2.1 r.2.2.2.2)
/-- what an operator reads or writes: its type, its bytes, whether it writes, whether it is signed -/
def acc (op : Int) : Option (Int × Int × Bool × Bool) := (rowsT.find? fun r => decide (op = r.1)).map (·.2)
theorem find_rows (op : Int) : ∀ (l : List (Int × Int × Int × Bool × Bool)) (j : Nat),
    (findPair op (l.map fun r => (r.1, accV r.2.1 r.2.2.1 r.2.2.2.1 r.2.2.2.2)) j).map (·.2) = (l.find? fun r => decide (op = r.1)).map fun r => accV r.2.1 r.2.2.1 r.2.2.2.1 r.2.2.2.2
  | [], _ => rfl
  | r :: l, j => by
    simp only [List.map_cons, findPair, List.find?_cons]
    by_cases h : op = r.1
    · simp [h]
    · simp only [if_neg h, decide_eq_false h]
      exact find_rows op l (j + 1)
theorem find_none {op : Int} (h : acc op = none) : findPair op table 0 = none := by
  have h1 := find_rows op rowsT 0
  unfold acc at h
  rw [Option.map_eq_none_iff] at h
  rw [h, Option.map_none, Option.map_eq_none_iff] at h1
  exact h1
theorem find_some {op k wd : Int} {st sg : Bool} (h : acc op = some (k, wd, st, sg)) : ∃ j, findPair op table 0 = some (j, accV k wd st sg) := by
  have h1 := find_rows op rowsT 0
  unfold acc at h
  rw [Option.map_eq_some_iff] at h
  obtain ⟨r, hr, hv⟩ := h
  rw [hr, Option.map_some, Option.map_eq_some_iff] at h1
  obtain ⟨p, hp, he⟩ := h1
  refine ⟨p.1, ?_⟩
  rw [hv] at he
  show findPair op (rowsT.map _) 0 = _
  rw [hp, ← he]
/-- what may stand in the table -/
theorem acc_bounds {op k wd : Int} {st sg : Bool} (h : acc op = some (k, wd, st, sg)) : (k = 127 ∨ k = 126) ∧ (wd = 1 ∨ wd = 2 ∨ wd = 4 ∨ wd = 8) ∧ 40 ≤ op ∧ op ≤ 62 := by
  unfold acc at h
  rw [Option.map_eq_some_iff] at h
  obtain ⟨r, hr, hv⟩ := h
  have hm := List.mem_of_find?_eq_some hr
  have hp := List.find?_some hr
  have hall : ∀ r ∈ rowsT, (r.2.1 = 127 ∨ r.2.1 = 126) ∧ (r.2.2.1 = 1 ∨ r.2.2.1 = 2 ∨ r.2.2.1 = 4 ∨ r.2.2.1 = 8) ∧ 40 ≤ r.1 ∧ r.1 ≤ 62 := by decide
  have := hall r hm
  rw [hv] at this
  simp at hp
  rw [hp]
  exact this
/-- the map, so many entries laid -/
def accL (i : Nat) : Obj := lit (table.take i)
end Go.Bk.Mem
namespace Go.Proofs.Ytkfnnmdghibjbaa
open Go.RowKit Go.Bk Go.Bk.Mem

theorem ins0 (W : World) : (Instr.mapUpdate 142 (.map (some W.heap.size)) (.int .i64 40) (.agg #[.int .i64 127, .int .i64 4, .bool false, .bool false])).run Try.prog (W.alloc (accL 0)) = .ok () (W.alloc (accL 1)) :=
  run_insert_lit W 142 3 140 (table.take 0) 40 _ Try.underlying142 Try.underlying3 (by decide +kernel)
theorem ins1 (W : World) : (Instr.mapUpdate 142 (.map (some W.heap.size)) (.int .i64 41) (.agg #[.int .i64 126, .int .i64 8, .bool false, .bool false])).run Try.prog (W.alloc (accL 1)) = .ok () (W.alloc (accL 2)) :=
  run_insert_lit W 142 3 140 (table.take 1) 41 _ Try.underlying142 Try.underlying3 (by decide +kernel)
theorem ins2 (W : World) : (Instr.mapUpdate 142 (.map (some W.heap.size)) (.int .i64 44) (.agg #[.int .i64 127, .int .i64 1, .bool false, .bool true])).run Try.prog (W.alloc (accL 2)) = .ok () (W.alloc (accL 3)) :=
  run_insert_lit W 142 3 140 (table.take 2) 44 _ Try.underlying142 Try.underlying3 (by decide +kernel)
theorem ins3 (W : World) : (Instr.mapUpdate 142 (.map (some W.heap.size)) (.int .i64 45) (.agg #[.int .i64 127, .int .i64 1, .bool false, .bool false])).run Try.prog (W.alloc (accL 3)) = .ok () (W.alloc (accL 4)) :=
  run_insert_lit W 142 3 140 (table.take 3) 45 _ Try.underlying142 Try.underlying3 (by decide +kernel)
theorem ins4 (W : World) : (Instr.mapUpdate 142 (.map (some W.heap.size)) (.int .i64 46) (.agg #[.int .i64 127, .int .i64 2, .bool false, .bool true])).run Try.prog (W.alloc (accL 4)) = .ok () (W.alloc (accL 5)) :=
  run_insert_lit W 142 3 140 (table.take 4) 46 _ Try.underlying142 Try.underlying3 (by decide +kernel)
theorem ins5 (W : World) : (Instr.mapUpdate 142 (.map (some W.heap.size)) (.int .i64 47) (.agg #[.int .i64 127, .int .i64 2, .bool false, .bool false])).run Try.prog (W.alloc (accL 5)) = .ok () (W.alloc (accL 6)) :=
  run_insert_lit W 142 3 140 (table.take 5) 47 _ Try.underlying142 Try.underlying3 (by decide +kernel)
theorem ins6 (W : World) : (Instr.mapUpdate 142 (.map (some W.heap.size)) (.int .i64 48) (.agg #[.int .i64 126, .int .i64 1, .bool false, .bool true])).run Try.prog (W.alloc (accL 6)) = .ok () (W.alloc (accL 7)) :=
  run_insert_lit W 142 3 140 (table.take 6) 48 _ Try.underlying142 Try.underlying3 (by decide +kernel)
theorem ins7 (W : World) : (Instr.mapUpdate 142 (.map (some W.heap.size)) (.int .i64 49) (.agg #[.int .i64 126, .int .i64 1, .bool false, .bool false])).run Try.prog (W.alloc (accL 7)) = .ok () (W.alloc (accL 8)) :=
  run_insert_lit W 142 3 140 (table.take 7) 49 _ Try.underlying142 Try.underlying3 (by decide +kernel)
theorem ins8 (W : World) : (Instr.mapUpdate 142 (.map (some W.heap.size)) (.int .i64 50) (.agg #[.int .i64 126, .int .i64 2, .bool false, .bool true])).run Try.prog (W.alloc (accL 8)) = .ok () (W.alloc (accL 9)) :=
  run_insert_lit W 142 3 140 (table.take 8) 50 _ Try.underlying142 Try.underlying3 (by decide +kernel)
theorem ins9 (W : World) : (Instr.mapUpdate 142 (.map (some W.heap.size)) (.int .i64 51) (.agg #[.int .i64 126, .int .i64 2, .bool false, .bool false])).run Try.prog (W.alloc (accL 9)) = .ok () (W.alloc (accL 10)) :=
  run_insert_lit W 142 3 140 (table.take 9) 51 _ Try.underlying142 Try.underlying3 (by decide +kernel)
theorem ins10 (W : World) : (Instr.mapUpdate 142 (.map (some W.heap.size)) (.int .i64 52) (.agg #[.int .i64 126, .int .i64 4, .bool false, .bool true])).run Try.prog (W.alloc (accL 10)) = .ok () (W.alloc (accL 11)) :=
  run_insert_lit W 142 3 140 (table.take 10) 52 _ Try.underlying142 Try.underlying3 (by decide +kernel)
theorem ins11 (W : World) : (Instr.mapUpdate 142 (.map (some W.heap.size)) (.int .i64 53) (.agg #[.int .i64 126, .int .i64 4, .bool false, .bool false])).run Try.prog (W.alloc (accL 11)) = .ok () (W.alloc (accL 12)) :=
  run_insert_lit W 142 3 140 (table.take 11) 53 _ Try.underlying142 Try.underlying3 (by decide +kernel)
theorem ins12 (W : World) : (Instr.mapUpdate 142 (.map (some W.heap.size)) (.int .i64 54) (.agg #[.int .i64 127, .int .i64 4, .bool true, .bool false])).run Try.prog (W.alloc (accL 12)) = .ok () (W.alloc (accL 13)) :=
  run_insert_lit W 142 3 140 (table.take 12) 54 _ Try.underlying142 Try.underlying3 (by decide +kernel)
theorem ins13 (W : World) : (Instr.mapUpdate 142 (.map (some W.heap.size)) (.int .i64 55) (.agg #[.int .i64 126, .int .i64 8, .bool true, .bool false])).run Try.prog (W.alloc (accL 13)) = .ok () (W.alloc (accL 14)) :=
  run_insert_lit W 142 3 140 (table.take 13) 55 _ Try.underlying142 Try.underlying3 (by decide +kernel)
theorem ins14 (W : World) : (Instr.mapUpdate 142 (.map (some W.heap.size)) (.int .i64 58) (.agg #[.int .i64 127, .int .i64 1, .bool true, .bool false])).run Try.prog (W.alloc (accL 14)) = .ok () (W.alloc (accL 15)) :=
  run_insert_lit W 142 3 140 (table.take 14) 58 _ Try.underlying142 Try.underlying3 (by decide +kernel)
theorem ins15 (W : World) : (Instr.mapUpdate 142 (.map (some W.heap.size)) (.int .i64 59) (.agg #[.int .i64 127, .int .i64 2, .bool true, .bool false])).run Try.prog (W.alloc (accL 15)) = .ok () (W.alloc (accL 16)) :=
  run_insert_lit W 142 3 140 (table.take 15) 59 _ Try.underlying142 Try.underlying3 (by decide +kernel)
theorem ins16 (W : World) : (Instr.mapUpdate 142 (.map (some W.heap.size)) (.int .i64 60) (.agg #[.int .i64 126, .int .i64 1, .bool true, .bool false])).run Try.prog (W.alloc (accL 16)) = .ok () (W.alloc (accL 17)) :=
  run_insert_lit W 142 3 140 (table.take 16) 60 _ Try.underlying142 Try.underlying3 (by decide +kernel)
theorem ins17 (W : World) : (Instr.mapUpdate 142 (.map (some W.heap.size)) (.int .i64 61) (.agg #[.int .i64 126, .int .i64 2, .bool true, .bool false])).run Try.prog (W.alloc (accL 17)) = .ok () (W.alloc (accL 18)) :=
  run_insert_lit W 142 3 140 (table.take 17) 61 _ Try.underlying142 Try.underlying3 (by decide +kernel)
theorem ins18 (W : World) : (Instr.mapUpdate 142 (.map (some W.heap.size)) (.int .i64 62) (.agg #[.int .i64 126, .int .i64 4, .bool true, .bool false])).run Try.prog (W.alloc (accL 18)) = .ok () (W.alloc (accL 19)) :=
  run_insert_lit W 142 3 140 (table.take 18) 62 _ Try.underlying142 Try.underlying3 (by decide +kernel)

set_option maxHeartbeats 1000000 in
theorem accesses_any (w : World) : Calls Try.prog 102 #[] w fun e w' => e = .returned (.map (some w.heap.size)) ∧ w.alloc (accL 19) = w' := by
  have hmm : ∀ (t : TypeId) (w : World), (Instr.makeMap t none).run Try.prog w = .ok (.map (some w.heap.size)) (w.alloc (accL 0)) := fun _ _ => rfl
  have i0 := ins0
  have i1 := ins1
  have i2 := ins2
  have i3 := ins3
  have i4 := ins4
  have i5 := ins5
  have i6 := ins6
  have i7 := ins7
  have i8 := ins8
  have i9 := ins9
  have i10 := ins10
  have i11 := ins11
  have i12 := ins12
  have i13 := ins13
  have i14 := ins14
  have i15 := ins15
  have i16 := ins16
  have i17 := ins17
  have i18 := ins18
  go_enter Try.func102, Try.ntmps102
  go_wp2
  go_ret
  exact ⟨rfl, rfl⟩

theorem zeroAcc (w : World) : (zeroValue 140).run Try.prog w = .ok (accV 0 0 false false) w := by kernel_rfl

theorem look_none {op : Int} (h : acc op = none) (W : World) : (Instr.lookup 142 (.map (some W.heap.size)) (.int .i64 op) true).run Try.prog (W.alloc (accL 19)) = .ok (.tuple #[.agg #[.int .i64 0, .int .i64 0, .bool false, .bool false], .bool false]) (W.alloc (accL 19)) := by
  have := run_lookup_lit (P := Try.prog) W 142 3 140 _ (table.take 19) op Try.underlying142 Try.underlying3 zeroAcc
  rw [show table.take 19 = table from rfl, find_none h] at this
  exact this
theorem look_some {op k wd : Int} {st sg : Bool} (h : acc op = some (k, wd, st, sg)) (W : World) : (Instr.lookup 142 (.map (some W.heap.size)) (.int .i64 op) true).run Try.prog (W.alloc (accL 19)) = .ok (.tuple #[.agg #[.int .i64 k, .int .i64 wd, .bool st, .bool sg], .bool true]) (W.alloc (accL 19)) := by
  have := run_lookup_lit (P := Try.prog) W 142 3 140 _ (table.take 19) op Try.underlying142 Try.underlying3 zeroAcc
  obtain ⟨j, hj⟩ := find_some h
  rw [show table.take 19 = table from rfl, hj] at this
  exact this

/-- what mem.Access answers -/
def accTuple (op : Int) : Value := match acc op with
  | some (k, wd, st, _) => .tuple #[.int .i64 k, .int .i64 wd, .bool st, .bool true]
  | none => .tuple #[.int .i64 0, .int .i64 0, .bool false, .bool false]

theorem results_tmp4 {fn : Func} {t u v x : Tmp} (h : fn.results = #[.tmp t, .tmp u, .tmp v, .tmp x]) (tmps : Array Value) (P : Program) (w : World) :
    (results fn tmps).run P w = .ok (.tuple #[tmps.getD t undef, tmps.getD u undef, tmps.getD v undef, tmps.getD x undef]) w := by simp [results, h]

set_option maxHeartbeats 1000000 in
theorem Access_any (op : Int) (w : World) : Calls Try.prog 96 #[.int .i64 op] w fun e w' => e = .returned (accTuple op) ∧ Below w.heap.size w w' := by
  have hb : Below w.heap.size w (w.alloc (accL 19)) := (Below.refl _ _).alloc (Nat.le_refl _) _
  cases h : acc op with
  | none =>
    have HT := Lib.hid (show accTuple op = .tuple #[.int .i64 0, .int .i64 0, .bool false, .bool false] by simp [accTuple, h])
    have hl := look_none h
    clear h
    go_enter Try.func96, Try.ntmps96
    go_wp2_with fail
    refine (accesses_any _).mono ?_
    rintro e w1 ⟨rfl, rfl⟩
    go_wp2_with fail
    go_quiet (fail)
    go_wp2
    refine bodyPost_ret (results_tmp4 rfl _ _ _) rfl ⟨?_, ?_⟩
    · rw [HT.out]
      rfl
    · exact below_drewN (hb.alloc (by simp) _) _
  | some r =>
    obtain ⟨k, wd, st, sg⟩ := r
    have HT := Lib.hid (show accTuple op = .tuple #[.int .i64 k, .int .i64 wd, .bool st, .bool true] by simp [accTuple, h])
    have hl := look_some h
    clear h
    go_enter Try.func96, Try.ntmps96
    go_wp2_with fail
    refine (accesses_any _).mono ?_
    rintro e w1 ⟨rfl, rfl⟩
    go_wp2_with fail
    go_quiet (fail)
    go_wp2
    refine bodyPost_ret (results_tmp4 rfl _ _ _) rfl ⟨?_, ?_⟩
    · rw [HT.out]
      rfl
    · exact below_drewN (hb.alloc (by simp) _) _

end Go.Proofs.Ytkfnnmdghibjbaa
