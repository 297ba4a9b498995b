/-
  What is read behind a store: the number's low bits; all other bytes are as before.
  Conditions: none.
-/
import Derived.Test.YtbopbipbbaempaaStores
namespace Go.Proofs.Ytbopbipbbaempaa
open Go.RowKit Go.Bk Go.Bk.Mem Go.Shelf

/-- the operator that reads so many bytes -/
def opOf (wn : Nat) : Int := if wn = 1 then 49 else if wn = 2 then 51 else if wn = 4 then 53 else 41
def bkT : List (Int × Value) := [(1, .int .i64 49), (2, .int .i64 51), (4, .int .i64 53), (8, .int .i64 41)]
def bkL (i : Nat) : Obj := lit (bkT.take i)
theorem bk0 (W : World) : (Instr.mapUpdate 48 (.map (some W.heap.size)) (.int .i64 1) (.int .i64 49)).run Try.prog (W.alloc (bkL 0)) = .ok () (W.alloc (bkL 1)) :=
  run_insert_lit W 48 3 3 (bkT.take 0) 1 _ Try.underlying48 Try.underlying3 (by decide +kernel)
theorem bk1 (W : World) : (Instr.mapUpdate 48 (.map (some W.heap.size)) (.int .i64 2) (.int .i64 51)).run Try.prog (W.alloc (bkL 1)) = .ok () (W.alloc (bkL 2)) :=
  run_insert_lit W 48 3 3 (bkT.take 1) 2 _ Try.underlying48 Try.underlying3 (by decide +kernel)
theorem bk2 (W : World) : (Instr.mapUpdate 48 (.map (some W.heap.size)) (.int .i64 4) (.int .i64 53)).run Try.prog (W.alloc (bkL 2)) = .ok () (W.alloc (bkL 3)) :=
  run_insert_lit W 48 3 3 (bkT.take 2) 4 _ Try.underlying48 Try.underlying3 (by decide +kernel)
theorem bk3 (W : World) : (Instr.mapUpdate 48 (.map (some W.heap.size)) (.int .i64 8) (.int .i64 41)).run Try.prog (W.alloc (bkL 3)) = .ok () (W.alloc (bkL 4)) :=
  run_insert_lit W 48 3 3 (bkT.take 3) 8 _ Try.underlying48 Try.underlying3 (by decide +kernel)
theorem zero3 (w : World) : (zeroValue 3).run Try.prog w = .ok (.int .i64 0) w := by kernel_rfl
theorem bk_look {wn : Nat} (h : wn = 1 ∨ wn = 2 ∨ wn = 4 ∨ wn = 8) (W : World) : (Instr.lookup 48 (.map (some W.heap.size)) (.int .i64 wn) false).run Try.prog (W.alloc (bkL 4)) = .ok (.int .i64 (opOf wn)) (W.alloc (bkL 4)) := by
  have := run_lookup_lit1 (P := Try.prog) W 48 3 3 (.int .i64 0) (bkT.take 4) wn Try.underlying48 Try.underlying3 zero3
  rw [bkL, this]
  rcases h with rfl | rfl | rfl | rfl <;> rfl

theorem storeE_zero {n : Nat} {op : Int} {addr off N : Nat} (h : storeE n op addr off N = 0) : ∃ (k : Int) (wn : Nat) (sg : Bool), acc op = some (k, (wn : Int), true, sg) ∧ (wn = 1 ∨ wn = 2 ∨ wn = 4 ∨ wn = 8) ∧ addr + off + wn ≤ n ∧ addr ≤ 4294967295 ∧ off ≤ 4294967295 ∧ wdOf op = wn := by
  revert h
  unfold storeE
  cases hacc : acc op with
  | none => simp
  | some r =>
    obtain ⟨k, wd, st, sg⟩ := r
    obtain ⟨_, hwd, _, _⟩ := acc_bounds hacc
    cases st with
    | false => simp
    | true =>
      simp only [Bool.true_eq_false, if_false]
      split
      · simp
      · intro h
        obtain ⟨_, h2, h3, h4⟩ := placeV_ok h
        refine ⟨k, wd.toNat, sg, ?_, by omega, h2, h3, h4, by simp [wdOf, hacc]⟩
        rw [show ((wd.toNat : Nat) : Int) = wd from by omega]

theorem putB_get (m : List Nat) (a N : Nat) : ∀ (w j : Nat), j < m.length → (putB m a N w).getD j 0 = if a ≤ j ∧ j < a + w then N / 256 ^ (j - a) % 256 else m.getD j 0
  | 0, j, _ => by simp [putB]; omega
  | w + 1, j, hj => by
    rw [putB]
    by_cases h : a + w = j
    · subst h
      have hl : a + w < (putB m a N w).length := by rw [putB_len]; exact hj
      rw [List.getD_eq_getElem?_getD, List.getElem?_set_self hl]
      simp
    · have ih := putB_get m a N w j hj
      rw [List.getD_eq_getElem?_getD, List.getElem?_set_ne h, ← List.getD_eq_getElem?_getD, ih]
      by_cases h2 : a ≤ j ∧ j < a + w
      · rw [if_pos h2, if_pos (by omega)]
      · rw [if_neg h2, if_neg (by omega)]
theorem leN_put (N : Nat) : ∀ (l : List Nat) , (∀ j (h : j < l.length), l[j] = N / 256 ^ j % 256) → leN l = N % 256 ^ l.length := by
  intro l
  induction l generalizing N with
  | nil => intro _; simp [leN]; omega
  | cons b l ih =>
    intro h
    have h0 := h 0 (by simp)
    simp at h0
    have := ih (N / 256) (fun j hj => by
      have := h (j + 1) (by simp; omega)
      simp at this
      rw [this, Nat.pow_succ, Nat.mul_comm, ← Nat.div_div_eq_div_mul])
    rw [leN, this, h0, List.length_cons, Nat.pow_succ, Nat.mul_comm (256 ^ l.length), Nat.mod_mul]
theorem load_back {m : List Nat} {op : Int} {addr off N : Nat} {wn : Nat} (h : storeE m.length op addr off N = 0) (hw : wdOf op = wn) (hw' : wn = 1 ∨ wn = 2 ∨ wn = 4 ∨ wn = 8) :
    loadV (storeM m op addr off N) (opOf wn) addr off = (((N % 256 ^ wn : Nat) : Int), 0) := by
  obtain ⟨k, wn', sg, _, _, hat, ha, ho, hwd⟩ := storeE_zero h
  obtain rfl : wn = wn' := by omega
  have hM : storeM m op addr off N = putB m (addr + off) N wn := by simp [storeM, h, hw]
  have hpl : placeV m.length wn addr off = (((addr + off : Nat) : Int), 0) := by
    unfold placeV
    rw [if_neg (by omega), if_pos (by simp [insB]; omega)]
  have hle : leN (((putB m (addr + off) N wn).drop (addr + off)).take wn) = N % 256 ^ wn := by
    have hl : (((putB m (addr + off) N wn).drop (addr + off)).take wn).length = wn := by simp [putB_len]; omega
    have := leN_put N (((putB m (addr + off) N wn).drop (addr + off)).take wn) (fun j hj => by
      rw [hl] at hj
      have hg := putB_get m (addr + off) N wn (addr + off + j) (by omega)
      rw [if_pos (by omega), show addr + off + j - (addr + off) = j from by omega] at hg
      rw [List.getElem_take, List.getElem_drop, ← hg, List.getD_eq_getElem?_getD, List.getElem?_eq_getElem (by rw [putB_len]; omega)]
      rfl)
    rw [hl] at this
    exact this
  have hac : acc (opOf wn) = some (126, (wn : Int), false, false) := by
    rcases hw' with rfl | rfl | rfl | rfl <;> rfl
  rw [hM, loadV, hac]
  simp only [Bool.false_eq_true, if_false, putB_len, hpl, if_pos, Int.toNat_natCast, hle, tellV, cutV]
  rfl
end Go.Proofs.Ytbopbipbbaempaa
