/-
 What an instruction takes and answers, by the document: bellcrankref08.Form, where nothing else decides.
 Conditions: as each says.
-/
import Derived.Test.YtgmapikcpnffhaaGreatLivRCk0
namespace Go.Proofs.YtgmapikcpnffhaaGreat
open Go.RowKit Go.Bk Go.Bk.Liv Go.Bk.Num Go.Bk.Mem
set_option linter.unusedVariables false
set_option linter.unusedSimpArgs false
/-- two rows that read, and whether they stand -/
def FmP (F : Option (List Int × List Int)) (w : World) (en : Ending) (w' : World) : Prop :=
 ∃ (vi vo : Value) (ok : Bool) (i o : List Int), en = .returned (.tuple #[vi, vo, .bool ok]) ∧ IR w' vi i ∧ IR w' vo o ∧ (F = none → ok = false) ∧ (∀ x, F = some x → ok = true ∧ x = (i, o)) ∧ Below w.heap.size w w'
theorem FmP.no {F : Option (List Int × List Int)} {w w' : World} {vi vo : Value} {i o : List Int} (hF : F = none) (h1 : IR w' vi i) (h2 : IR w' vo o) (hb : Below w.heap.size w w') : FmP F w (.returned (.tuple #[vi, vo, .bool false])) w' :=
 ⟨vi, vo, false, i, o, rfl, h1, h2, fun _ => rfl, (fun x h => by rw [hF] at h; cases h), hb⟩
theorem FmP.yes {F : Option (List Int × List Int)} {w w' : World} {vi vo : Value} {i o : List Int} (hF : F = some (i, o)) (h1 : IR w' vi i) (h2 : IR w' vo o) (hb : Below w.heap.size w w') : FmP F w (.returned (.tuple #[vi, vo, .bool true])) w' :=
 ⟨vi, vo, true, i, o, rfl, h1, h2, (fun h => by rw [hF] at h; cases h), (fun x h => by rw [hF] at h; injection h with h; exact ⟨rfl, h.symm⟩), hb⟩
theorem n_eq {n : Nat} (h : n = 0) : ((n : Int) == 0) = true := by simp [h]
theorem n_ne {n : Nat} (h : n ≠ 0) : ((n : Int) == 0) = false := by simp [h]
theorem n_le {n : Nat} (h : n ≤ 8589934592) : decide ((n : Int) ≤ 8589934592) = true := decide_eq_true (by omega)
theorem n_gt {n : Nat} (h : ¬ n ≤ 8589934592) : decide ((n : Int) ≤ 8589934592) = false := decide_eq_false (by omega)
theorem n_lt {n : Nat} (h : n ≤ 4294967295) : decide ((n : Int) < 4294967296) = true := decide_eq_true (by omega)
theorem n_ge {n : Nat} (h : ¬ n ≤ 4294967295) : decide ((n : Int) < 4294967296) = false := decide_eq_false (by omega)
theorem IR.ownI {w : World} {base : Nat} {t : TypeId} {A : Option Addr} {c : Nat} {l : List Int} (h : w.ownsRow base t 1 (.slice A l.length c) l.length (i64s l)) : IR w (.slice A l.length c) l := ⟨A, c, rfl, Bk.Src.of_own h⟩

set_option maxRecDepth 100000 in
set_option maxHeartbeats 2000000 in
theorem fForm_tick (e : EnvD) (s : SigD) (ve : Value) (op : Int) (n : Nat) (hn : n < 18446744073709551616) (w : World) (he : EnvV w ve e) (ho : op = 258) (hg : (grpOf op).isSome = false) (hac : acc op = none) :
  Calls Tryz.prog 114 #[ve, .agg #[.int .i64 op, .int .u64 (n : Int), .slice none 0 0, .slice none 0 0], .int .i64 0] w (FmP (if n = 0 then some ([], []) else none) w) := by
 obtain ⟨va, vb, vd, rfl, h1, h2, h3⟩ := he
 obtain ⟨As, cs, rfl, _⟩ := h1.len
 obtain ⟨Ag, cg, rfl⟩ := h2.shape
 have H1 := Lib.hid h1
 have H2 := Lib.hid h2
 have H3 := Lib.hid h3
 obtain ⟨Am, cm, rfl, _⟩ := h3
 have B0 := Lib.hid (al2 w (.cells #[.slice As e.sigs.length cs, .int .i64 e.imports, .slice Ag e.globals.length cg, .slice Am e.muts.length cm, .bool e.mem] 26) (.cells #[.int .i64 op, .int .u64 (n : Int), .slice none 0 0, .slice none 0 0] 165))
 have E0 := Lib.hid ((Blk.new w 26 #[.slice As e.sigs.length cs, .int .i64 e.imports, .slice Ag e.globals.length cg, .slice Am e.muts.length cm, .bool e.mem]).alloc (.cells #[.int .i64 op, .int .u64 (n : Int), .slice none 0 0, .slice none 0 0] 165))
 have F0 := Lib.hid (Blk.newAt (w.alloc (.cells #[.slice As e.sigs.length cs, .int .i64 e.imports, .slice Ag e.globals.length cg, .slice Am e.muts.length cm, .bool e.mem] 26)) (N := w.heap.size + 1) 165 #[.int .i64 op, .int .u64 (n : Int), .slice none 0 0, .slice none 0 0] (by simp))
 clear h1 h2
 have HI := Lib.hid (show (grpOf op).isSome = false from hg)
 have HAc := Lib.hid (show accTuple op = .tuple #[.int .i64 0, .int .i64 0, .bool false, .bool false] by unfold accTuple; rw [hac])
 have g256 : (op == 256) = false := by simp; omega
 have g258 : (op == 258) = true := by simp [ho]
 have g27 : (op == 27) = false := by simp; omega
 have g35 : (op == 35) = false := by simp; omega
 have g36 : (op == 36) = false := by simp; omega
 have g16 : (op == 16) = false := by simp; omega
 have g257 : (op == 257) = false := by simp; omega
 have g63 : (op == 63) = false := by simp; omega
 have g64 : (op == 64) = false := by simp; omega
 clear hg hac ho
 obtain ⟨FF, hFF⟩ : ∃ F : Option (List Int × List Int), (if n = 0 then some ([], []) else none) = F := ⟨_, rfl⟩
 rw [hFF]
 have HFF := Lib.hid hFF
 clear hFF
 go_enter Tryz.func114, Tryz.ntmps114
 go_wp2_with fail
 refine (RSig_any op _).mono ?_
 rintro en w1 ⟨A1, c1, rfl, hr1, hb1⟩
 rw [HI.out]
 have B1 := Lib.hid (B0.out.trans (hb1.mono B0.out.size))
 have E1 := Lib.hid (E0.out.below hb1 E0.out.lt)
 have F1 := Lib.hid (F0.out.below hb1 F0.out.lt)
 have HR := Lib.hid hr1
 clear hb1 hr1
 have f0 := F1.out.cell 0
 have f1 := F1.out.cell 1
 simp at f0 f1
 have y1 := F1.out.lt
 have e0 := E1.out.cell 0
 have e2 := E1.out.cell 2
 have e3 := E1.out.cell 3
 have e4 := E1.out.cell 4
 simp at e0 e2 e3 e4
 have y2 := E1.out.lt
 go_wp2_with fail
 refine (refAccess_any op _).mono ?_
 rintro en w2 ⟨rfl, rfl⟩
 rw [HAc.out]
 by_cases h0 : n = 0
 ·have t0 := n_eq h0
  have HF := Lib.hid (HFF.out.symm.trans (if_pos h0))
  clear h0
  go_wp2_with fail
  go_quiet (fail)
  all_goals
   go_wp2
   go_ret3
   exact FmP.yes HF.out (IR.nil _) (IR.nil _) (below_drewN B1.out _)
 ·have t0 := n_ne h0
  have HF := Lib.hid (HFF.out.symm.trans (if_neg h0))
  clear h0
  go_wp2_with fail
  go_quiet (fail)
  all_goals
   go_wp2
   go_ret3
   exact FmP.no HF.out (IR.nil _) (IR.nil _) (below_drewN B1.out _)


set_option maxRecDepth 100000 in
set_option maxHeartbeats 2000000 in
theorem fForm_num (e : EnvD) (s : SigD) (ve : Value) (op : Int) (n : Nat) (hn : n < 18446744073709551616) (w : World) (he : EnvV w ve e) (o256 : op ≠ 256) (o258 : op ≠ 258) (hg : (grpOf op).isSome = true) (hac : acc op = none) :
  Calls Tryz.prog 114 #[ve, .agg #[.int .i64 op, .int .u64 (n : Int), .slice none 0 0, .slice none 0 0], .int .i64 0] w (FmP (if n = 0 then some (sigL op, [sigO op]) else none) w) := by
 obtain ⟨va, vb, vd, rfl, h1, h2, h3⟩ := he
 obtain ⟨As, cs, rfl, _⟩ := h1.len
 obtain ⟨Ag, cg, rfl⟩ := h2.shape
 have H1 := Lib.hid h1
 have H2 := Lib.hid h2
 have H3 := Lib.hid h3
 obtain ⟨Am, cm, rfl, _⟩ := h3
 have B0 := Lib.hid (al2 w (.cells #[.slice As e.sigs.length cs, .int .i64 e.imports, .slice Ag e.globals.length cg, .slice Am e.muts.length cm, .bool e.mem] 26) (.cells #[.int .i64 op, .int .u64 (n : Int), .slice none 0 0, .slice none 0 0] 165))
 have E0 := Lib.hid ((Blk.new w 26 #[.slice As e.sigs.length cs, .int .i64 e.imports, .slice Ag e.globals.length cg, .slice Am e.muts.length cm, .bool e.mem]).alloc (.cells #[.int .i64 op, .int .u64 (n : Int), .slice none 0 0, .slice none 0 0] 165))
 have F0 := Lib.hid (Blk.newAt (w.alloc (.cells #[.slice As e.sigs.length cs, .int .i64 e.imports, .slice Ag e.globals.length cg, .slice Am e.muts.length cm, .bool e.mem] 26)) (N := w.heap.size + 1) 165 #[.int .i64 op, .int .u64 (n : Int), .slice none 0 0, .slice none 0 0] (by simp))
 clear h1 h2
 have HI := Lib.hid (show (grpOf op).isSome = true from hg)
 have HAc := Lib.hid (show accTuple op = .tuple #[.int .i64 0, .int .i64 0, .bool false, .bool false] by unfold accTuple; rw [hac])
 have g256 : (op == 256) = false := by simp [o256]
 have g258 : (op == 258) = false := by simp [o258]
 clear hg hac o256 o258
 obtain ⟨FF, hFF⟩ : ∃ F : Option (List Int × List Int), (if n = 0 then some (sigL op, [sigO op]) else none) = F := ⟨_, rfl⟩
 rw [hFF]
 have HFF := Lib.hid hFF
 clear hFF
 go_enter Tryz.func114, Tryz.ntmps114
 go_wp2_with fail
 refine (RSig_any op _).mono ?_
 rintro en w1 ⟨A1, c1, rfl, hr1, hb1⟩
 rw [HI.out]
 have B1 := Lib.hid (B0.out.trans (hb1.mono B0.out.size))
 have E1 := Lib.hid (E0.out.below hb1 E0.out.lt)
 have F1 := Lib.hid (F0.out.below hb1 F0.out.lt)
 have HR := Lib.hid hr1
 clear hb1 hr1
 have f0 := F1.out.cell 0
 have f1 := F1.out.cell 1
 simp at f0 f1
 have y1 := F1.out.lt
 have e0 := E1.out.cell 0
 have e2 := E1.out.cell 2
 have e3 := E1.out.cell 3
 have e4 := E1.out.cell 4
 simp at e0 e2 e3 e4
 have y2 := E1.out.lt
 go_wp2_with fail
 refine (refAccess_any op _).mono ?_
 rintro en w2 ⟨rfl, rfl⟩
 rw [HAc.out]
 by_cases h0 : n = 0
 ·have t0 := n_eq h0
  have HF := Lib.hid (HFF.out.symm.trans (if_pos h0))
  clear h0
  go_wp2_with fail
  go_region
  all_goals
   go_wp2
   go_ret3
   exact FmP.yes HF.out (((IR.ownI HR.out).alloc _).drew) ((IR.one (Blk.new _ _ _)).drew) ((B1.out.alloc B1.out.size _).drew)
 ·have t0 := n_ne h0
  have HF := Lib.hid (HFF.out.symm.trans (if_neg h0))
  clear h0
  go_wp2_with fail
  go_region
  all_goals
   go_wp2
   go_ret3
   exact FmP.no HF.out (((IR.ownI HR.out).alloc _).drew) ((IR.one (Blk.new _ _ _)).drew) ((B1.out.alloc B1.out.size _).drew)


set_option maxRecDepth 100000 in
set_option maxHeartbeats 2000000 in
theorem fForm_35 (e : EnvD) (s : SigD) (ve : Value) (op : Int) (n : Nat) (hn : n < 18446744073709551616) (w : World) (he : EnvV w ve e) (ho : op = 35) (hg : (grpOf op).isSome = false) (hac : acc op = none) (hmg : e.muts.length = e.globals.length) :
  Calls Tryz.prog 114 #[ve, .agg #[.int .i64 op, .int .u64 (n : Int), .slice none 0 0, .slice none 0 0], .int .i64 0] w (FmP ((e.globals[n]?).map fun g => ([], [g])) w) := by
 obtain ⟨va, vb, vd, rfl, h1, h2, h3⟩ := he
 obtain ⟨As, cs, rfl, _⟩ := h1.len
 obtain ⟨Ag, cg, rfl⟩ := h2.shape
 have H1 := Lib.hid h1
 have H2 := Lib.hid h2
 have H3 := Lib.hid h3
 obtain ⟨Am, cm, rfl, _⟩ := h3
 have B0 := Lib.hid (al2 w (.cells #[.slice As e.sigs.length cs, .int .i64 e.imports, .slice Ag e.globals.length cg, .slice Am e.muts.length cm, .bool e.mem] 26) (.cells #[.int .i64 op, .int .u64 (n : Int), .slice none 0 0, .slice none 0 0] 165))
 have E0 := Lib.hid ((Blk.new w 26 #[.slice As e.sigs.length cs, .int .i64 e.imports, .slice Ag e.globals.length cg, .slice Am e.muts.length cm, .bool e.mem]).alloc (.cells #[.int .i64 op, .int .u64 (n : Int), .slice none 0 0, .slice none 0 0] 165))
 have F0 := Lib.hid (Blk.newAt (w.alloc (.cells #[.slice As e.sigs.length cs, .int .i64 e.imports, .slice Ag e.globals.length cg, .slice Am e.muts.length cm, .bool e.mem] 26)) (N := w.heap.size + 1) 165 #[.int .i64 op, .int .u64 (n : Int), .slice none 0 0, .slice none 0 0] (by simp))
 clear h1 h2
 have HI := Lib.hid (show (grpOf op).isSome = false from hg)
 have HAc := Lib.hid (show accTuple op = .tuple #[.int .i64 0, .int .i64 0, .bool false, .bool false] by unfold accTuple; rw [hac])
 have HMG := Lib.hid hmg
 have g256 : (op == 256) = false := by simp; omega
 have g258 : (op == 258) = false := by simp; omega
 have g27 : (op == 27) = false := by simp; omega
 have g35 : (op == 35) = true := by simp [ho]
 have g36 : (op == 36) = false := by simp; omega
 have g16 : (op == 16) = false := by simp; omega
 have g257 : (op == 257) = false := by simp; omega
 have g63 : (op == 63) = false := by simp; omega
 have g64 : (op == 64) = false := by simp; omega
 clear hg hac ho hmg
 obtain ⟨FF, hFF⟩ : ∃ F : Option (List Int × List Int), ((e.globals[n]?).map fun g => ([], [g])) = F := ⟨_, rfl⟩
 rw [hFF]
 have HFF := Lib.hid hFF
 clear hFF
 go_enter Tryz.func114, Tryz.ntmps114
 go_wp2_with fail
 refine (RSig_any op _).mono ?_
 rintro en w1 ⟨A1, c1, rfl, hr1, hb1⟩
 rw [HI.out]
 have B1 := Lib.hid (B0.out.trans (hb1.mono B0.out.size))
 have E1 := Lib.hid (E0.out.below hb1 E0.out.lt)
 have F1 := Lib.hid (F0.out.below hb1 F0.out.lt)
 have HR := Lib.hid hr1
 clear hb1 hr1
 have f0 := F1.out.cell 0
 have f1 := F1.out.cell 1
 simp at f0 f1
 have y1 := F1.out.lt
 have e0 := E1.out.cell 0
 have e2 := E1.out.cell 2
 have e3 := E1.out.cell 3
 have e4 := E1.out.cell 4
 simp at e0 e2 e3 e4
 have y2 := E1.out.lt
 go_wp2_with fail
 refine (refAccess_any op _).mono ?_
 rintro en w2 ⟨rfl, rfl⟩
 rw [HAc.out]
 have hl := H2.out.lenV
 by_cases hlt : n < e.globals.length
 ·obtain ⟨x, hx⟩ : ∃ x, e.globals[n]? = some x := ⟨_, List.getElem?_eq_getElem hlt⟩
  have t1 : decide ((e.globals.length : Int) ≤ (n : Int)) = false := by simp; omega
  have t2 : ¬ e.globals.length ≤ n := by omega
  have t3 : (n : Int) < (e.globals.length : Int) := by omega
  obtain ⟨gb, go, rfl, hgb, c0⟩ := H2.out.ir.cell hx
  have d0 := (B1.out.cell (p := ⟨gb, _, none⟩) hgb).trans c0
  have hgw : gb < w1.heap.size := by have := B1.out.size; omega
  have HF := Lib.hid (show FF = some ([], [x]) by rw [← HFF.out, hx]; rfl)
  clear hx c0 hlt
  go_wp2
  go_ret3
  exact FmP.yes HF.out (IR.nil _) (IR.one (Blk.new _ _ _)) (B1.out.alloc B1.out.size _)
 ·have t1 : decide ((e.globals.length : Int) ≤ (n : Int)) = true := by simp; omega
  have t2 : e.globals.length ≤ n := by omega
  have HF := Lib.hid (show FF = none by rw [← HFF.out, List.getElem?_eq_none t2]; try rfl)
  clear hlt
  go_wp2
  go_ret3
  exact FmP.no HF.out (IR.nil _) (IR.nil _) B1.out


set_option maxRecDepth 100000 in
set_option maxHeartbeats 2000000 in
theorem fForm_36 (e : EnvD) (s : SigD) (ve : Value) (op : Int) (n : Nat) (hn : n < 18446744073709551616) (w : World) (he : EnvV w ve e) (ho : op = 36) (hg : (grpOf op).isSome = false) (hac : acc op = none) (hmg : e.muts.length = e.globals.length) :
  Calls Tryz.prog 114 #[ve, .agg #[.int .i64 op, .int .u64 (n : Int), .slice none 0 0, .slice none 0 0], .int .i64 0] w (FmP (match e.globals[n]?, e.muts[n]? with | some g, some true => some ([g], []) | _, _ => none) w) := by
 obtain ⟨va, vb, vd, rfl, h1, h2, h3⟩ := he
 obtain ⟨As, cs, rfl, _⟩ := h1.len
 obtain ⟨Ag, cg, rfl⟩ := h2.shape
 have H1 := Lib.hid h1
 have H2 := Lib.hid h2
 have H3 := Lib.hid h3
 obtain ⟨Am, cm, rfl, _⟩ := h3
 have B0 := Lib.hid (al2 w (.cells #[.slice As e.sigs.length cs, .int .i64 e.imports, .slice Ag e.globals.length cg, .slice Am e.muts.length cm, .bool e.mem] 26) (.cells #[.int .i64 op, .int .u64 (n : Int), .slice none 0 0, .slice none 0 0] 165))
 have E0 := Lib.hid ((Blk.new w 26 #[.slice As e.sigs.length cs, .int .i64 e.imports, .slice Ag e.globals.length cg, .slice Am e.muts.length cm, .bool e.mem]).alloc (.cells #[.int .i64 op, .int .u64 (n : Int), .slice none 0 0, .slice none 0 0] 165))
 have F0 := Lib.hid (Blk.newAt (w.alloc (.cells #[.slice As e.sigs.length cs, .int .i64 e.imports, .slice Ag e.globals.length cg, .slice Am e.muts.length cm, .bool e.mem] 26)) (N := w.heap.size + 1) 165 #[.int .i64 op, .int .u64 (n : Int), .slice none 0 0, .slice none 0 0] (by simp))
 clear h1 h2
 have HI := Lib.hid (show (grpOf op).isSome = false from hg)
 have HAc := Lib.hid (show accTuple op = .tuple #[.int .i64 0, .int .i64 0, .bool false, .bool false] by unfold accTuple; rw [hac])
 have HMG := Lib.hid hmg
 have g256 : (op == 256) = false := by simp; omega
 have g258 : (op == 258) = false := by simp; omega
 have g27 : (op == 27) = false := by simp; omega
 have g35 : (op == 35) = false := by simp; omega
 have g36 : (op == 36) = true := by simp [ho]
 have g16 : (op == 16) = false := by simp; omega
 have g257 : (op == 257) = false := by simp; omega
 have g63 : (op == 63) = false := by simp; omega
 have g64 : (op == 64) = false := by simp; omega
 clear hg hac ho hmg
 obtain ⟨FF, hFF⟩ : ∃ F : Option (List Int × List Int), (match e.globals[n]?, e.muts[n]? with | some g, some true => some ([g], []) | _, _ => none) = F := ⟨_, rfl⟩
 rw [hFF]
 have HFF := Lib.hid hFF
 clear hFF
 go_enter Tryz.func114, Tryz.ntmps114
 go_wp2_with fail
 refine (RSig_any op _).mono ?_
 rintro en w1 ⟨A1, c1, rfl, hr1, hb1⟩
 rw [HI.out]
 have B1 := Lib.hid (B0.out.trans (hb1.mono B0.out.size))
 have E1 := Lib.hid (E0.out.below hb1 E0.out.lt)
 have F1 := Lib.hid (F0.out.below hb1 F0.out.lt)
 have HR := Lib.hid hr1
 clear hb1 hr1
 have f0 := F1.out.cell 0
 have f1 := F1.out.cell 1
 simp at f0 f1
 have y1 := F1.out.lt
 have e0 := E1.out.cell 0
 have e2 := E1.out.cell 2
 have e3 := E1.out.cell 3
 have e4 := E1.out.cell 4
 simp at e0 e2 e3 e4
 have y2 := E1.out.lt
 go_wp2_with fail
 refine (refAccess_any op _).mono ?_
 rintro en w2 ⟨rfl, rfl⟩
 rw [HAc.out]
 have hl := H2.out.lenV
 by_cases hlt : n < e.globals.length
 ·obtain ⟨x, hx⟩ : ∃ x, e.globals[n]? = some x := ⟨_, List.getElem?_eq_getElem hlt⟩
  have t1 : decide ((e.globals.length : Int) ≤ (n : Int)) = false := by simp; omega
  have t2 : ¬ e.globals.length ≤ n := by omega
  have t3 : (n : Int) < (e.globals.length : Int) := by omega
  obtain ⟨gb, go, rfl, hgb, c0⟩ := H2.out.ir.cell hx
  have d0 := (B1.out.cell (p := ⟨gb, _, none⟩) hgb).trans c0
  have hgw : gb < w1.heap.size := by have := B1.out.size; omega
  obtain ⟨y, hy⟩ : ∃ y, e.muts[n]? = some y := ⟨_, List.getElem?_eq_getElem (by rw [HMG.out]; exact hlt)⟩
  obtain ⟨Am', cm', e', hms, _⟩ := H3.out
  injection e' with e1 _ e3
  subst e1
  subst e3
  have hnm : n < e.muts.length := by rw [HMG.out]; exact hlt
  have hnm2 : (n : Int) < (e.muts.length : Int) := by omega
  obtain ⟨mb, mo, rfl, hmb⟩ := hms.addr (by omega)
  have c1 := hms.at_ hnm
  rw [boolsV_at hnm, (List.getElem?_eq_some_iff.1 hy).2] at c1
  have d1 := (B1.out.cell (p := ⟨mb, _, none⟩) hmb).trans c1
  have hmw : mb < w1.heap.size := by have := B1.out.size; omega
  have HF := Lib.hid (show FF = if y = true then some ([x], []) else none by rw [← HFF.out, hx, hy]; cases y <;> rfl)
  clear hx hy c0 c1 hms hlt
  go_wp2_with fail
  go_region
  all_goals
   go_wp2
   go_ret3
   cases y with
   | true => exact FmP.yes (HF.out.trans (if_pos rfl)) (IR.one (Blk.new _ _ _)).drew (IR.nil _) (B1.out.alloc B1.out.size _).drew
   | false => exact FmP.no (HF.out.trans (if_neg (by simp))) (IR.one (Blk.new _ _ _)).drew (IR.nil _) (B1.out.alloc B1.out.size _).drew
 ·have t1 : decide ((e.globals.length : Int) ≤ (n : Int)) = true := by simp; omega
  have t2 : e.globals.length ≤ n := by omega
  have HF := Lib.hid (show FF = none by rw [← HFF.out, List.getElem?_eq_none t2]; try rfl)
  clear hlt
  go_wp2
  go_ret3
  exact FmP.no HF.out (IR.nil _) (IR.nil _) B1.out


set_option maxRecDepth 100000 in
set_option maxHeartbeats 2000000 in
theorem fForm_16 (e : EnvD) (s : SigD) (ve : Value) (op : Int) (n : Nat) (hn : n < 18446744073709551616) (w : World) (he : EnvV w ve e) (ho : op = 16) (hg : (grpOf op).isSome = false) (hac : acc op = none) :
  Calls Tryz.prog 114 #[ve, .agg #[.int .i64 op, .int .u64 (n : Int), .slice none 0 0, .slice none 0 0], .int .i64 0] w (FmP ((e.sigs[n]?).map fun g => (g.inn, g.out)) w) := by
 obtain ⟨va, vb, vd, rfl, h1, h2, h3⟩ := he
 obtain ⟨As, cs, rfl, _⟩ := h1.len
 obtain ⟨Ag, cg, rfl⟩ := h2.shape
 have H1 := Lib.hid h1
 have H2 := Lib.hid h2
 have H3 := Lib.hid h3
 obtain ⟨Am, cm, rfl, _⟩ := h3
 have B0 := Lib.hid (al2 w (.cells #[.slice As e.sigs.length cs, .int .i64 e.imports, .slice Ag e.globals.length cg, .slice Am e.muts.length cm, .bool e.mem] 26) (.cells #[.int .i64 op, .int .u64 (n : Int), .slice none 0 0, .slice none 0 0] 165))
 have E0 := Lib.hid ((Blk.new w 26 #[.slice As e.sigs.length cs, .int .i64 e.imports, .slice Ag e.globals.length cg, .slice Am e.muts.length cm, .bool e.mem]).alloc (.cells #[.int .i64 op, .int .u64 (n : Int), .slice none 0 0, .slice none 0 0] 165))
 have F0 := Lib.hid (Blk.newAt (w.alloc (.cells #[.slice As e.sigs.length cs, .int .i64 e.imports, .slice Ag e.globals.length cg, .slice Am e.muts.length cm, .bool e.mem] 26)) (N := w.heap.size + 1) 165 #[.int .i64 op, .int .u64 (n : Int), .slice none 0 0, .slice none 0 0] (by simp))
 clear h1 h2
 have HI := Lib.hid (show (grpOf op).isSome = false from hg)
 have HAc := Lib.hid (show accTuple op = .tuple #[.int .i64 0, .int .i64 0, .bool false, .bool false] by unfold accTuple; rw [hac])
 have g256 : (op == 256) = false := by simp; omega
 have g258 : (op == 258) = false := by simp; omega
 have g27 : (op == 27) = false := by simp; omega
 have g35 : (op == 35) = false := by simp; omega
 have g36 : (op == 36) = false := by simp; omega
 have g16 : (op == 16) = true := by simp [ho]
 have g257 : (op == 257) = false := by simp; omega
 have g63 : (op == 63) = false := by simp; omega
 have g64 : (op == 64) = false := by simp; omega
 clear hg hac ho
 obtain ⟨FF, hFF⟩ : ∃ F : Option (List Int × List Int), ((e.sigs[n]?).map fun g => (g.inn, g.out)) = F := ⟨_, rfl⟩
 rw [hFF]
 have HFF := Lib.hid hFF
 clear hFF
 go_enter Tryz.func114, Tryz.ntmps114
 go_wp2_with fail
 refine (RSig_any op _).mono ?_
 rintro en w1 ⟨A1, c1, rfl, hr1, hb1⟩
 rw [HI.out]
 have B1 := Lib.hid (B0.out.trans (hb1.mono B0.out.size))
 have E1 := Lib.hid (E0.out.below hb1 E0.out.lt)
 have F1 := Lib.hid (F0.out.below hb1 F0.out.lt)
 have HR := Lib.hid hr1
 clear hb1 hr1
 have f0 := F1.out.cell 0
 have f1 := F1.out.cell 1
 simp at f0 f1
 have y1 := F1.out.lt
 have e0 := E1.out.cell 0
 have e2 := E1.out.cell 2
 have e3 := E1.out.cell 3
 have e4 := E1.out.cell 4
 simp at e0 e2 e3 e4
 have y2 := E1.out.lt
 go_wp2_with fail
 refine (refAccess_any op _).mono ?_
 rintro en w2 ⟨rfl, rfl⟩
 rw [HAc.out]
 have hl := H1.out.lenV
 by_cases hlt : n < e.sigs.length
 ·obtain ⟨x, hx⟩ : ∃ x, e.sigs[n]? = some x := ⟨_, List.getElem?_eq_getElem hlt⟩
  have t1 : decide ((e.sigs.length : Int) ≤ (n : Int)) = false := by simp; omega
  have t2 : ¬ e.sigs.length ≤ n := by omega
  have t3 : (n : Int) < (e.sigs.length : Int) := by omega
  obtain ⟨gb, go, p, q, rfl, hgb, c0, c1, s0, s1⟩ := H1.out.sig hx
  obtain ⟨pA, pc, rfl⟩ := s0.shape
  obtain ⟨qA, qc, rfl⟩ := s1.shape
  have d0 := (B1.out.cell (p := ⟨gb, _, none⟩) hgb).trans c0
  have d1 := (B1.out.cell (p := ⟨gb, _, none⟩) hgb).trans c1
  have hgw : gb < w1.heap.size := by have := B1.out.size; omega
  have HF := Lib.hid (show FF = some (x.inn, x.out) by rw [← HFF.out, hx]; rfl)
  have HP := Lib.hid s0.ir
  have HQ := Lib.hid s1.ir
  clear hx c0 c1 s0 s1 hlt
  go_wp2_with fail
  go_quiet (fail)
  go_wp2
  go_ret3
  exact FmP.yes HF.out ((HP.out.below B1.out (Nat.le_refl _)).drewN _) ((HQ.out.below B1.out (Nat.le_refl _)).drewN _) (below_drewN B1.out _)
 ·have t1 : decide ((e.sigs.length : Int) ≤ (n : Int)) = true := by simp; omega
  have t2 : e.sigs.length ≤ n := by omega
  have HF := Lib.hid (show FF = none by rw [← HFF.out, List.getElem?_eq_none t2]; try rfl)
  clear hlt
  go_wp2
  go_ret3
  exact FmP.no HF.out (IR.nil _) (IR.nil _) B1.out


set_option maxRecDepth 100000 in
set_option maxHeartbeats 2000000 in
theorem fForm_nomem_n (e : EnvD) (s : SigD) (ve : Value) (op : Int) (n : Nat) (hn : n < 18446744073709551616) (w : World) (he : EnvV w ve e) (o256 : op ≠ 256) (o258 : op ≠ 258) (o27 : op ≠ 27) (o35 : op ≠ 35) (o36 : op ≠ 36) (o16 : op ≠ 16) (hg : (grpOf op).isSome = false) (hmem : e.mem = false) (hac : acc op = none) :
  Calls Tryz.prog 114 #[ve, .agg #[.int .i64 op, .int .u64 (n : Int), .slice none 0 0, .slice none 0 0], .int .i64 0] w (FmP (none) w) := by
 obtain ⟨va, vb, vd, rfl, h1, h2, h3⟩ := he
 obtain ⟨As, cs, rfl, _⟩ := h1.len
 obtain ⟨Ag, cg, rfl⟩ := h2.shape
 have H1 := Lib.hid h1
 have H2 := Lib.hid h2
 have H3 := Lib.hid h3
 obtain ⟨Am, cm, rfl, _⟩ := h3
 have B0 := Lib.hid (al2 w (.cells #[.slice As e.sigs.length cs, .int .i64 e.imports, .slice Ag e.globals.length cg, .slice Am e.muts.length cm, .bool e.mem] 26) (.cells #[.int .i64 op, .int .u64 (n : Int), .slice none 0 0, .slice none 0 0] 165))
 have E0 := Lib.hid ((Blk.new w 26 #[.slice As e.sigs.length cs, .int .i64 e.imports, .slice Ag e.globals.length cg, .slice Am e.muts.length cm, .bool e.mem]).alloc (.cells #[.int .i64 op, .int .u64 (n : Int), .slice none 0 0, .slice none 0 0] 165))
 have F0 := Lib.hid (Blk.newAt (w.alloc (.cells #[.slice As e.sigs.length cs, .int .i64 e.imports, .slice Ag e.globals.length cg, .slice Am e.muts.length cm, .bool e.mem] 26)) (N := w.heap.size + 1) 165 #[.int .i64 op, .int .u64 (n : Int), .slice none 0 0, .slice none 0 0] (by simp))
 clear h1 h2
 have HI := Lib.hid (show (grpOf op).isSome = false from hg)
 have HAc := Lib.hid (show accTuple op = .tuple #[.int .i64 0, .int .i64 0, .bool false, .bool false] by unfold accTuple; rw [hac])
 have g256 : (op == 256) = false := by simp [o256]
 have g258 : (op == 258) = false := by simp [o258]
 have g27 : (op == 27) = false := by simp [o27]
 have g35 : (op == 35) = false := by simp [o35]
 have g36 : (op == 36) = false := by simp [o36]
 have g16 : (op == 16) = false := by simp [o16]
 rw [hmem] at B0 E0 F0 ⊢
 clear hmem
 clear hg hac o256 o258 o27 o35 o36 o16
 obtain ⟨FF, hFF⟩ : ∃ F : Option (List Int × List Int), (none) = F := ⟨_, rfl⟩
 rw [hFF]
 have HFF := Lib.hid hFF
 clear hFF
 go_enter Tryz.func114, Tryz.ntmps114
 go_wp2_with fail
 refine (RSig_any op _).mono ?_
 rintro en w1 ⟨A1, c1, rfl, hr1, hb1⟩
 rw [HI.out]
 have B1 := Lib.hid (B0.out.trans (hb1.mono B0.out.size))
 have E1 := Lib.hid (E0.out.below hb1 E0.out.lt)
 have F1 := Lib.hid (F0.out.below hb1 F0.out.lt)
 have HR := Lib.hid hr1
 clear hb1 hr1
 have f0 := F1.out.cell 0
 have f1 := F1.out.cell 1
 simp at f0 f1
 have y1 := F1.out.lt
 have e0 := E1.out.cell 0
 have e2 := E1.out.cell 2
 have e3 := E1.out.cell 3
 have e4 := E1.out.cell 4
 simp at e0 e2 e3 e4
 have y2 := E1.out.lt
 go_wp2_with fail
 refine (refAccess_any op _).mono ?_
 rintro en w2 ⟨rfl, rfl⟩
 rw [HAc.out]
 go_wp2
 go_ret3
 exact FmP.no HFF.out.symm (IR.nil _) (IR.nil _) B1.out


set_option maxRecDepth 100000 in
set_option maxHeartbeats 2000000 in
theorem fForm_nomem_s (e : EnvD) (s : SigD) (ve : Value) (op : Int) (n : Nat) (hn : n < 18446744073709551616) (w : World) (he : EnvV w ve e) (o256 : op ≠ 256) (o258 : op ≠ 258) (o27 : op ≠ 27) (o35 : op ≠ 35) (o36 : op ≠ 36) (o16 : op ≠ 16) (hg : (grpOf op).isSome = false) (hmem : e.mem = false) (k wd : Int) (st sg : Bool) (hac : acc op = some (k, wd, st, sg)) :
  Calls Tryz.prog 114 #[ve, .agg #[.int .i64 op, .int .u64 (n : Int), .slice none 0 0, .slice none 0 0], .int .i64 0] w (FmP (none) w) := by
 obtain ⟨va, vb, vd, rfl, h1, h2, h3⟩ := he
 obtain ⟨As, cs, rfl, _⟩ := h1.len
 obtain ⟨Ag, cg, rfl⟩ := h2.shape
 have H1 := Lib.hid h1
 have H2 := Lib.hid h2
 have H3 := Lib.hid h3
 obtain ⟨Am, cm, rfl, _⟩ := h3
 have B0 := Lib.hid (al2 w (.cells #[.slice As e.sigs.length cs, .int .i64 e.imports, .slice Ag e.globals.length cg, .slice Am e.muts.length cm, .bool e.mem] 26) (.cells #[.int .i64 op, .int .u64 (n : Int), .slice none 0 0, .slice none 0 0] 165))
 have E0 := Lib.hid ((Blk.new w 26 #[.slice As e.sigs.length cs, .int .i64 e.imports, .slice Ag e.globals.length cg, .slice Am e.muts.length cm, .bool e.mem]).alloc (.cells #[.int .i64 op, .int .u64 (n : Int), .slice none 0 0, .slice none 0 0] 165))
 have F0 := Lib.hid (Blk.newAt (w.alloc (.cells #[.slice As e.sigs.length cs, .int .i64 e.imports, .slice Ag e.globals.length cg, .slice Am e.muts.length cm, .bool e.mem] 26)) (N := w.heap.size + 1) 165 #[.int .i64 op, .int .u64 (n : Int), .slice none 0 0, .slice none 0 0] (by simp))
 clear h1 h2
 have HI := Lib.hid (show (grpOf op).isSome = false from hg)
 have HAc := Lib.hid (show accTuple op = .tuple #[.int .i64 k, .int .i64 wd, .bool st, .bool true] by unfold accTuple; rw [hac])
 have g256 : (op == 256) = false := by simp [o256]
 have g258 : (op == 258) = false := by simp [o258]
 have g27 : (op == 27) = false := by simp [o27]
 have g35 : (op == 35) = false := by simp [o35]
 have g36 : (op == 36) = false := by simp [o36]
 have g16 : (op == 16) = false := by simp [o16]
 rw [hmem] at B0 E0 F0 ⊢
 clear hmem
 clear hg hac o256 o258 o27 o35 o36 o16
 obtain ⟨FF, hFF⟩ : ∃ F : Option (List Int × List Int), (none) = F := ⟨_, rfl⟩
 rw [hFF]
 have HFF := Lib.hid hFF
 clear hFF
 go_enter Tryz.func114, Tryz.ntmps114
 go_wp2_with fail
 refine (RSig_any op _).mono ?_
 rintro en w1 ⟨A1, c1, rfl, hr1, hb1⟩
 rw [HI.out]
 have B1 := Lib.hid (B0.out.trans (hb1.mono B0.out.size))
 have E1 := Lib.hid (E0.out.below hb1 E0.out.lt)
 have F1 := Lib.hid (F0.out.below hb1 F0.out.lt)
 have HR := Lib.hid hr1
 clear hb1 hr1
 have f0 := F1.out.cell 0
 have f1 := F1.out.cell 1
 simp at f0 f1
 have y1 := F1.out.lt
 have e0 := E1.out.cell 0
 have e2 := E1.out.cell 2
 have e3 := E1.out.cell 3
 have e4 := E1.out.cell 4
 simp at e0 e2 e3 e4
 have y2 := E1.out.lt
 go_wp2_with fail
 refine (refAccess_any op _).mono ?_
 rintro en w2 ⟨rfl, rfl⟩
 rw [HAc.out]
 go_wp2
 go_ret3
 exact FmP.no HFF.out.symm (IR.nil _) (IR.nil _) B1.out


set_option maxRecDepth 100000 in
set_option maxHeartbeats 2000000 in
theorem fForm_257 (e : EnvD) (s : SigD) (ve : Value) (op : Int) (n : Nat) (hn : n < 18446744073709551616) (w : World) (he : EnvV w ve e) (ho : op = 257) (hg : (grpOf op).isSome = false) (hmem : e.mem = true) (hac : acc op = none) :
  Calls Tryz.prog 114 #[ve, .agg #[.int .i64 op, .int .u64 (n : Int), .slice none 0 0, .slice none 0 0], .int .i64 0] w (FmP (if n ≤ 8589934592 then some ([127], []) else none) w) := by
 obtain ⟨va, vb, vd, rfl, h1, h2, h3⟩ := he
 obtain ⟨As, cs, rfl, _⟩ := h1.len
 obtain ⟨Ag, cg, rfl⟩ := h2.shape
 have H1 := Lib.hid h1
 have H2 := Lib.hid h2
 have H3 := Lib.hid h3
 obtain ⟨Am, cm, rfl, _⟩ := h3
 have B0 := Lib.hid (al2 w (.cells #[.slice As e.sigs.length cs, .int .i64 e.imports, .slice Ag e.globals.length cg, .slice Am e.muts.length cm, .bool e.mem] 26) (.cells #[.int .i64 op, .int .u64 (n : Int), .slice none 0 0, .slice none 0 0] 165))
 have E0 := Lib.hid ((Blk.new w 26 #[.slice As e.sigs.length cs, .int .i64 e.imports, .slice Ag e.globals.length cg, .slice Am e.muts.length cm, .bool e.mem]).alloc (.cells #[.int .i64 op, .int .u64 (n : Int), .slice none 0 0, .slice none 0 0] 165))
 have F0 := Lib.hid (Blk.newAt (w.alloc (.cells #[.slice As e.sigs.length cs, .int .i64 e.imports, .slice Ag e.globals.length cg, .slice Am e.muts.length cm, .bool e.mem] 26)) (N := w.heap.size + 1) 165 #[.int .i64 op, .int .u64 (n : Int), .slice none 0 0, .slice none 0 0] (by simp))
 clear h1 h2
 have HI := Lib.hid (show (grpOf op).isSome = false from hg)
 have HAc := Lib.hid (show accTuple op = .tuple #[.int .i64 0, .int .i64 0, .bool false, .bool false] by unfold accTuple; rw [hac])
 have g256 : (op == 256) = false := by simp; omega
 have g258 : (op == 258) = false := by simp; omega
 have g27 : (op == 27) = false := by simp; omega
 have g35 : (op == 35) = false := by simp; omega
 have g36 : (op == 36) = false := by simp; omega
 have g16 : (op == 16) = false := by simp; omega
 have g257 : (op == 257) = true := by simp [ho]
 have g63 : (op == 63) = false := by simp; omega
 have g64 : (op == 64) = false := by simp; omega
 rw [hmem] at B0 E0 F0 ⊢
 clear hmem
 clear hg hac ho
 obtain ⟨FF, hFF⟩ : ∃ F : Option (List Int × List Int), (if n ≤ 8589934592 then some ([127], []) else none) = F := ⟨_, rfl⟩
 rw [hFF]
 have HFF := Lib.hid hFF
 clear hFF
 go_enter Tryz.func114, Tryz.ntmps114
 go_wp2_with fail
 refine (RSig_any op _).mono ?_
 rintro en w1 ⟨A1, c1, rfl, hr1, hb1⟩
 rw [HI.out]
 have B1 := Lib.hid (B0.out.trans (hb1.mono B0.out.size))
 have E1 := Lib.hid (E0.out.below hb1 E0.out.lt)
 have F1 := Lib.hid (F0.out.below hb1 F0.out.lt)
 have HR := Lib.hid hr1
 clear hb1 hr1
 have f0 := F1.out.cell 0
 have f1 := F1.out.cell 1
 simp at f0 f1
 have y1 := F1.out.lt
 have e0 := E1.out.cell 0
 have e2 := E1.out.cell 2
 have e3 := E1.out.cell 3
 have e4 := E1.out.cell 4
 simp at e0 e2 e3 e4
 have y2 := E1.out.lt
 go_wp2_with fail
 refine (refAccess_any op _).mono ?_
 rintro en w2 ⟨rfl, rfl⟩
 rw [HAc.out]
 by_cases h0 : n ≤ 8589934592
 ·have t0 := n_le h0
  have HF := Lib.hid (HFF.out.symm.trans (if_pos h0))
  clear h0
  go_wp2_with fail
  go_region
  all_goals
   go_wp2
   go_ret3
   exact FmP.yes HF.out ((IR.one (Blk.new _ _ _)).drew) (IR.nil _) ((B1.out.alloc B1.out.size _).drew)
 ·have t0 := n_gt h0
  have HF := Lib.hid (HFF.out.symm.trans (if_neg h0))
  clear h0
  go_wp2_with fail
  go_region
  all_goals
   go_wp2
   go_ret3
   exact FmP.no HF.out ((IR.one (Blk.new _ _ _)).drew) (IR.nil _) ((B1.out.alloc B1.out.size _).drew)


set_option maxRecDepth 100000 in
set_option maxHeartbeats 2000000 in
theorem fForm_acc_true (e : EnvD) (s : SigD) (ve : Value) (op : Int) (n : Nat) (hn : n < 18446744073709551616) (w : World) (he : EnvV w ve e) (o256 : op ≠ 256) (o258 : op ≠ 258) (o27 : op ≠ 27) (o35 : op ≠ 35) (o36 : op ≠ 36) (o16 : op ≠ 16) (o257 : op ≠ 257) (hg : (grpOf op).isSome = false) (hmem : e.mem = true) (k wd : Int) (sg : Bool) (hac : acc op = some (k, wd, true, sg)) :
  Calls Tryz.prog 114 #[ve, .agg #[.int .i64 op, .int .u64 (n : Int), .slice none 0 0, .slice none 0 0], .int .i64 0] w (FmP (if n ≤ 4294967295 then some ([127, k], []) else none) w) := by
 obtain ⟨va, vb, vd, rfl, h1, h2, h3⟩ := he
 obtain ⟨As, cs, rfl, _⟩ := h1.len
 obtain ⟨Ag, cg, rfl⟩ := h2.shape
 have H1 := Lib.hid h1
 have H2 := Lib.hid h2
 have H3 := Lib.hid h3
 obtain ⟨Am, cm, rfl, _⟩ := h3
 have B0 := Lib.hid (al2 w (.cells #[.slice As e.sigs.length cs, .int .i64 e.imports, .slice Ag e.globals.length cg, .slice Am e.muts.length cm, .bool e.mem] 26) (.cells #[.int .i64 op, .int .u64 (n : Int), .slice none 0 0, .slice none 0 0] 165))
 have E0 := Lib.hid ((Blk.new w 26 #[.slice As e.sigs.length cs, .int .i64 e.imports, .slice Ag e.globals.length cg, .slice Am e.muts.length cm, .bool e.mem]).alloc (.cells #[.int .i64 op, .int .u64 (n : Int), .slice none 0 0, .slice none 0 0] 165))
 have F0 := Lib.hid (Blk.newAt (w.alloc (.cells #[.slice As e.sigs.length cs, .int .i64 e.imports, .slice Ag e.globals.length cg, .slice Am e.muts.length cm, .bool e.mem] 26)) (N := w.heap.size + 1) 165 #[.int .i64 op, .int .u64 (n : Int), .slice none 0 0, .slice none 0 0] (by simp))
 clear h1 h2
 have HI := Lib.hid (show (grpOf op).isSome = false from hg)
 have HAc := Lib.hid (show accTuple op = .tuple #[.int .i64 k, .int .i64 wd, .bool true, .bool true] by unfold accTuple; rw [hac])
 have g256 : (op == 256) = false := by simp [o256]
 have g258 : (op == 258) = false := by simp [o258]
 have g27 : (op == 27) = false := by simp [o27]
 have g35 : (op == 35) = false := by simp [o35]
 have g36 : (op == 36) = false := by simp [o36]
 have g16 : (op == 16) = false := by simp [o16]
 have g257 : (op == 257) = false := by simp [o257]
 rw [hmem] at B0 E0 F0 ⊢
 clear hmem
 clear hg hac o256 o258 o27 o35 o36 o16 o257
 obtain ⟨FF, hFF⟩ : ∃ F : Option (List Int × List Int), (if n ≤ 4294967295 then some ([127, k], []) else none) = F := ⟨_, rfl⟩
 rw [hFF]
 have HFF := Lib.hid hFF
 clear hFF
 go_enter Tryz.func114, Tryz.ntmps114
 go_wp2_with fail
 refine (RSig_any op _).mono ?_
 rintro en w1 ⟨A1, c1, rfl, hr1, hb1⟩
 rw [HI.out]
 have B1 := Lib.hid (B0.out.trans (hb1.mono B0.out.size))
 have E1 := Lib.hid (E0.out.below hb1 E0.out.lt)
 have F1 := Lib.hid (F0.out.below hb1 F0.out.lt)
 have HR := Lib.hid hr1
 clear hb1 hr1
 have f0 := F1.out.cell 0
 have f1 := F1.out.cell 1
 simp at f0 f1
 have y1 := F1.out.lt
 have e0 := E1.out.cell 0
 have e2 := E1.out.cell 2
 have e3 := E1.out.cell 3
 have e4 := E1.out.cell 4
 simp at e0 e2 e3 e4
 have y2 := E1.out.lt
 go_wp2_with fail
 refine (refAccess_any op _).mono ?_
 rintro en w2 ⟨rfl, rfl⟩
 rw [HAc.out]
 by_cases h0 : n ≤ 4294967295
 ·have t0 := n_lt h0
  have HF := Lib.hid (HFF.out.symm.trans (if_pos h0))
  clear h0
  go_wp2_with fail
  go_region
  all_goals
   go_wp2
   go_ret3
   exact FmP.yes HF.out ((IR.two (Blk.new _ _ _)).drew) (IR.nil _) ((B1.out.alloc B1.out.size _).drew)
 ·have t0 := n_ge h0
  have HF := Lib.hid (HFF.out.symm.trans (if_neg h0))
  clear h0
  go_wp2_with fail
  go_region
  all_goals
   go_wp2
   go_ret3
   exact FmP.no HF.out ((IR.two (Blk.new _ _ _)).drew) (IR.nil _) ((B1.out.alloc B1.out.size _).drew)


set_option maxRecDepth 100000 in
set_option maxHeartbeats 2000000 in
theorem fForm_acc_false (e : EnvD) (s : SigD) (ve : Value) (op : Int) (n : Nat) (hn : n < 18446744073709551616) (w : World) (he : EnvV w ve e) (o256 : op ≠ 256) (o258 : op ≠ 258) (o27 : op ≠ 27) (o35 : op ≠ 35) (o36 : op ≠ 36) (o16 : op ≠ 16) (o257 : op ≠ 257) (hg : (grpOf op).isSome = false) (hmem : e.mem = true) (k wd : Int) (sg : Bool) (hac : acc op = some (k, wd, false, sg)) :
  Calls Tryz.prog 114 #[ve, .agg #[.int .i64 op, .int .u64 (n : Int), .slice none 0 0, .slice none 0 0], .int .i64 0] w (FmP (if n ≤ 4294967295 then some ([127], [k]) else none) w) := by
 obtain ⟨va, vb, vd, rfl, h1, h2, h3⟩ := he
 obtain ⟨As, cs, rfl, _⟩ := h1.len
 obtain ⟨Ag, cg, rfl⟩ := h2.shape
 have H1 := Lib.hid h1
 have H2 := Lib.hid h2
 have H3 := Lib.hid h3
 obtain ⟨Am, cm, rfl, _⟩ := h3
 have B0 := Lib.hid (al2 w (.cells #[.slice As e.sigs.length cs, .int .i64 e.imports, .slice Ag e.globals.length cg, .slice Am e.muts.length cm, .bool e.mem] 26) (.cells #[.int .i64 op, .int .u64 (n : Int), .slice none 0 0, .slice none 0 0] 165))
 have E0 := Lib.hid ((Blk.new w 26 #[.slice As e.sigs.length cs, .int .i64 e.imports, .slice Ag e.globals.length cg, .slice Am e.muts.length cm, .bool e.mem]).alloc (.cells #[.int .i64 op, .int .u64 (n : Int), .slice none 0 0, .slice none 0 0] 165))
 have F0 := Lib.hid (Blk.newAt (w.alloc (.cells #[.slice As e.sigs.length cs, .int .i64 e.imports, .slice Ag e.globals.length cg, .slice Am e.muts.length cm, .bool e.mem] 26)) (N := w.heap.size + 1) 165 #[.int .i64 op, .int .u64 (n : Int), .slice none 0 0, .slice none 0 0] (by simp))
 clear h1 h2
 have HI := Lib.hid (show (grpOf op).isSome = false from hg)
 have HAc := Lib.hid (show accTuple op = .tuple #[.int .i64 k, .int .i64 wd, .bool false, .bool true] by unfold accTuple; rw [hac])
 have g256 : (op == 256) = false := by simp [o256]
 have g258 : (op == 258) = false := by simp [o258]
 have g27 : (op == 27) = false := by simp [o27]
 have g35 : (op == 35) = false := by simp [o35]
 have g36 : (op == 36) = false := by simp [o36]
 have g16 : (op == 16) = false := by simp [o16]
 have g257 : (op == 257) = false := by simp [o257]
 rw [hmem] at B0 E0 F0 ⊢
 clear hmem
 clear hg hac o256 o258 o27 o35 o36 o16 o257
 obtain ⟨FF, hFF⟩ : ∃ F : Option (List Int × List Int), (if n ≤ 4294967295 then some ([127], [k]) else none) = F := ⟨_, rfl⟩
 rw [hFF]
 have HFF := Lib.hid hFF
 clear hFF
 go_enter Tryz.func114, Tryz.ntmps114
 go_wp2_with fail
 refine (RSig_any op _).mono ?_
 rintro en w1 ⟨A1, c1, rfl, hr1, hb1⟩
 rw [HI.out]
 have B1 := Lib.hid (B0.out.trans (hb1.mono B0.out.size))
 have E1 := Lib.hid (E0.out.below hb1 E0.out.lt)
 have F1 := Lib.hid (F0.out.below hb1 F0.out.lt)
 have HR := Lib.hid hr1
 clear hb1 hr1
 have f0 := F1.out.cell 0
 have f1 := F1.out.cell 1
 simp at f0 f1
 have y1 := F1.out.lt
 have e0 := E1.out.cell 0
 have e2 := E1.out.cell 2
 have e3 := E1.out.cell 3
 have e4 := E1.out.cell 4
 simp at e0 e2 e3 e4
 have y2 := E1.out.lt
 go_wp2_with fail
 refine (refAccess_any op _).mono ?_
 rintro en w2 ⟨rfl, rfl⟩
 rw [HAc.out]
 by_cases h0 : n ≤ 4294967295
 ·have t0 := n_lt h0
  have HF := Lib.hid (HFF.out.symm.trans (if_pos h0))
  clear h0
  go_wp2_with fail
  go_region
  all_goals
   go_wp2
   go_ret3
   first
    | exact FmP.yes HF.out (Blk.alloc (Blk.new _ _ _) _ |> IR.one).drew (IR.one (Blk.newAt _ _ _ (by simp))).drew ((B1.out.alloc B1.out.size _).alloc (by simp; have := B1.out.size; omega) _).drew
    | exact FmP.yes HF.out (IR.one (Blk.newAt _ _ _ (by simp))).drew (Blk.alloc (Blk.new _ _ _) _ |> IR.one).drew ((B1.out.alloc B1.out.size _).alloc (by simp; have := B1.out.size; omega) _).drew
 ·have t0 := n_ge h0
  have HF := Lib.hid (HFF.out.symm.trans (if_neg h0))
  clear h0
  go_wp2_with fail
  go_region
  all_goals
   go_wp2
   go_ret3
   first
    | exact FmP.no HF.out (Blk.alloc (Blk.new _ _ _) _ |> IR.one).drew (IR.one (Blk.newAt _ _ _ (by simp))).drew ((B1.out.alloc B1.out.size _).alloc (by simp; have := B1.out.size; omega) _).drew
    | exact FmP.no HF.out (IR.one (Blk.newAt _ _ _ (by simp))).drew (Blk.alloc (Blk.new _ _ _) _ |> IR.one).drew ((B1.out.alloc B1.out.size _).alloc (by simp; have := B1.out.size; omega) _).drew


set_option maxRecDepth 100000 in
set_option maxHeartbeats 2000000 in
theorem fForm_63 (e : EnvD) (s : SigD) (ve : Value) (op : Int) (n : Nat) (hn : n < 18446744073709551616) (w : World) (he : EnvV w ve e) (ho : op = 63) (hg : (grpOf op).isSome = false) (hmem : e.mem = true) (hac : acc op = none) :
  Calls Tryz.prog 114 #[ve, .agg #[.int .i64 op, .int .u64 (n : Int), .slice none 0 0, .slice none 0 0], .int .i64 0] w (FmP (if n = 0 then some ([], [127]) else none) w) := by
 obtain ⟨va, vb, vd, rfl, h1, h2, h3⟩ := he
 obtain ⟨As, cs, rfl, _⟩ := h1.len
 obtain ⟨Ag, cg, rfl⟩ := h2.shape
 have H1 := Lib.hid h1
 have H2 := Lib.hid h2
 have H3 := Lib.hid h3
 obtain ⟨Am, cm, rfl, _⟩ := h3
 have B0 := Lib.hid (al2 w (.cells #[.slice As e.sigs.length cs, .int .i64 e.imports, .slice Ag e.globals.length cg, .slice Am e.muts.length cm, .bool e.mem] 26) (.cells #[.int .i64 op, .int .u64 (n : Int), .slice none 0 0, .slice none 0 0] 165))
 have E0 := Lib.hid ((Blk.new w 26 #[.slice As e.sigs.length cs, .int .i64 e.imports, .slice Ag e.globals.length cg, .slice Am e.muts.length cm, .bool e.mem]).alloc (.cells #[.int .i64 op, .int .u64 (n : Int), .slice none 0 0, .slice none 0 0] 165))
 have F0 := Lib.hid (Blk.newAt (w.alloc (.cells #[.slice As e.sigs.length cs, .int .i64 e.imports, .slice Ag e.globals.length cg, .slice Am e.muts.length cm, .bool e.mem] 26)) (N := w.heap.size + 1) 165 #[.int .i64 op, .int .u64 (n : Int), .slice none 0 0, .slice none 0 0] (by simp))
 clear h1 h2
 have HI := Lib.hid (show (grpOf op).isSome = false from hg)
 have HAc := Lib.hid (show accTuple op = .tuple #[.int .i64 0, .int .i64 0, .bool false, .bool false] by unfold accTuple; rw [hac])
 have g256 : (op == 256) = false := by simp; omega
 have g258 : (op == 258) = false := by simp; omega
 have g27 : (op == 27) = false := by simp; omega
 have g35 : (op == 35) = false := by simp; omega
 have g36 : (op == 36) = false := by simp; omega
 have g16 : (op == 16) = false := by simp; omega
 have g257 : (op == 257) = false := by simp; omega
 have g63 : (op == 63) = true := by simp [ho]
 have g64 : (op == 64) = false := by simp; omega
 rw [hmem] at B0 E0 F0 ⊢
 clear hmem
 clear hg hac ho
 obtain ⟨FF, hFF⟩ : ∃ F : Option (List Int × List Int), (if n = 0 then some ([], [127]) else none) = F := ⟨_, rfl⟩
 rw [hFF]
 have HFF := Lib.hid hFF
 clear hFF
 go_enter Tryz.func114, Tryz.ntmps114
 go_wp2_with fail
 refine (RSig_any op _).mono ?_
 rintro en w1 ⟨A1, c1, rfl, hr1, hb1⟩
 rw [HI.out]
 have B1 := Lib.hid (B0.out.trans (hb1.mono B0.out.size))
 have E1 := Lib.hid (E0.out.below hb1 E0.out.lt)
 have F1 := Lib.hid (F0.out.below hb1 F0.out.lt)
 have HR := Lib.hid hr1
 clear hb1 hr1
 have f0 := F1.out.cell 0
 have f1 := F1.out.cell 1
 simp at f0 f1
 have y1 := F1.out.lt
 have e0 := E1.out.cell 0
 have e2 := E1.out.cell 2
 have e3 := E1.out.cell 3
 have e4 := E1.out.cell 4
 simp at e0 e2 e3 e4
 have y2 := E1.out.lt
 go_wp2_with fail
 refine (refAccess_any op _).mono ?_
 rintro en w2 ⟨rfl, rfl⟩
 rw [HAc.out]
 by_cases h0 : n = 0
 ·have t0 := n_eq h0
  have HF := Lib.hid (HFF.out.symm.trans (if_pos h0))
  clear h0
  go_wp2_with fail
  go_region
  all_goals
   go_wp2
   go_ret3
   exact FmP.yes HF.out (IR.nil _) ((IR.one (Blk.new _ _ _)).drew) ((B1.out.alloc B1.out.size _).drew)
 ·have t0 := n_ne h0
  have HF := Lib.hid (HFF.out.symm.trans (if_neg h0))
  clear h0
  go_wp2_with fail
  go_region
  all_goals
   go_wp2
   go_ret3
   exact FmP.no HF.out (IR.nil _) ((IR.one (Blk.new _ _ _)).drew) ((B1.out.alloc B1.out.size _).drew)


set_option maxRecDepth 100000 in
set_option maxHeartbeats 2000000 in
theorem fForm_64 (e : EnvD) (s : SigD) (ve : Value) (op : Int) (n : Nat) (hn : n < 18446744073709551616) (w : World) (he : EnvV w ve e) (ho : op = 64) (hg : (grpOf op).isSome = false) (hmem : e.mem = true) (hac : acc op = none) :
  Calls Tryz.prog 114 #[ve, .agg #[.int .i64 op, .int .u64 (n : Int), .slice none 0 0, .slice none 0 0], .int .i64 0] w (FmP (if n = 0 then some ([127], [127]) else none) w) := by
 obtain ⟨va, vb, vd, rfl, h1, h2, h3⟩ := he
 obtain ⟨As, cs, rfl, _⟩ := h1.len
 obtain ⟨Ag, cg, rfl⟩ := h2.shape
 have H1 := Lib.hid h1
 have H2 := Lib.hid h2
 have H3 := Lib.hid h3
 obtain ⟨Am, cm, rfl, _⟩ := h3
 have B0 := Lib.hid (al2 w (.cells #[.slice As e.sigs.length cs, .int .i64 e.imports, .slice Ag e.globals.length cg, .slice Am e.muts.length cm, .bool e.mem] 26) (.cells #[.int .i64 op, .int .u64 (n : Int), .slice none 0 0, .slice none 0 0] 165))
 have E0 := Lib.hid ((Blk.new w 26 #[.slice As e.sigs.length cs, .int .i64 e.imports, .slice Ag e.globals.length cg, .slice Am e.muts.length cm, .bool e.mem]).alloc (.cells #[.int .i64 op, .int .u64 (n : Int), .slice none 0 0, .slice none 0 0] 165))
 have F0 := Lib.hid (Blk.newAt (w.alloc (.cells #[.slice As e.sigs.length cs, .int .i64 e.imports, .slice Ag e.globals.length cg, .slice Am e.muts.length cm, .bool e.mem] 26)) (N := w.heap.size + 1) 165 #[.int .i64 op, .int .u64 (n : Int), .slice none 0 0, .slice none 0 0] (by simp))
 clear h1 h2
 have HI := Lib.hid (show (grpOf op).isSome = false from hg)
 have HAc := Lib.hid (show accTuple op = .tuple #[.int .i64 0, .int .i64 0, .bool false, .bool false] by unfold accTuple; rw [hac])
 have g256 : (op == 256) = false := by simp; omega
 have g258 : (op == 258) = false := by simp; omega
 have g27 : (op == 27) = false := by simp; omega
 have g35 : (op == 35) = false := by simp; omega
 have g36 : (op == 36) = false := by simp; omega
 have g16 : (op == 16) = false := by simp; omega
 have g257 : (op == 257) = false := by simp; omega
 have g63 : (op == 63) = false := by simp; omega
 have g64 : (op == 64) = true := by simp [ho]
 rw [hmem] at B0 E0 F0 ⊢
 clear hmem
 clear hg hac ho
 obtain ⟨FF, hFF⟩ : ∃ F : Option (List Int × List Int), (if n = 0 then some ([127], [127]) else none) = F := ⟨_, rfl⟩
 rw [hFF]
 have HFF := Lib.hid hFF
 clear hFF
 go_enter Tryz.func114, Tryz.ntmps114
 go_wp2_with fail
 refine (RSig_any op _).mono ?_
 rintro en w1 ⟨A1, c1, rfl, hr1, hb1⟩
 rw [HI.out]
 have B1 := Lib.hid (B0.out.trans (hb1.mono B0.out.size))
 have E1 := Lib.hid (E0.out.below hb1 E0.out.lt)
 have F1 := Lib.hid (F0.out.below hb1 F0.out.lt)
 have HR := Lib.hid hr1
 clear hb1 hr1
 have f0 := F1.out.cell 0
 have f1 := F1.out.cell 1
 simp at f0 f1
 have y1 := F1.out.lt
 have e0 := E1.out.cell 0
 have e2 := E1.out.cell 2
 have e3 := E1.out.cell 3
 have e4 := E1.out.cell 4
 simp at e0 e2 e3 e4
 have y2 := E1.out.lt
 go_wp2_with fail
 refine (refAccess_any op _).mono ?_
 rintro en w2 ⟨rfl, rfl⟩
 rw [HAc.out]
 by_cases h0 : n = 0
 ·have t0 := n_eq h0
  have HF := Lib.hid (HFF.out.symm.trans (if_pos h0))
  clear h0
  go_wp2_with fail
  go_region
  all_goals
   go_wp2
   go_ret3
   first
    | exact FmP.yes HF.out (Blk.alloc (Blk.new _ _ _) _ |> IR.one).drew (IR.one (Blk.newAt _ _ _ (by simp))).drew ((B1.out.alloc B1.out.size _).alloc (by simp; have := B1.out.size; omega) _).drew
    | exact FmP.yes HF.out (IR.one (Blk.newAt _ _ _ (by simp))).drew (Blk.alloc (Blk.new _ _ _) _ |> IR.one).drew ((B1.out.alloc B1.out.size _).alloc (by simp; have := B1.out.size; omega) _).drew
 ·have t0 := n_ne h0
  have HF := Lib.hid (HFF.out.symm.trans (if_neg h0))
  clear h0
  go_wp2_with fail
  go_region
  all_goals
   go_wp2
   go_ret3
   first
    | exact FmP.no HF.out (Blk.alloc (Blk.new _ _ _) _ |> IR.one).drew (IR.one (Blk.newAt _ _ _ (by simp))).drew ((B1.out.alloc B1.out.size _).alloc (by simp; have := B1.out.size; omega) _).drew
    | exact FmP.no HF.out (IR.one (Blk.newAt _ _ _ (by simp))).drew (Blk.alloc (Blk.new _ _ _) _ |> IR.one).drew ((B1.out.alloc B1.out.size _).alloc (by simp; have := B1.out.size; omega) _).drew


set_option maxRecDepth 100000 in
set_option maxHeartbeats 2000000 in
theorem fForm_none (e : EnvD) (s : SigD) (ve : Value) (op : Int) (n : Nat) (hn : n < 18446744073709551616) (w : World) (he : EnvV w ve e) (o256 : op ≠ 256) (o258 : op ≠ 258) (o27 : op ≠ 27) (o35 : op ≠ 35) (o36 : op ≠ 36) (o16 : op ≠ 16) (o257 : op ≠ 257) (o63 : op ≠ 63) (o64 : op ≠ 64) (hg : (grpOf op).isSome = false) (hmem : e.mem = true) (hac : acc op = none) :
  Calls Tryz.prog 114 #[ve, .agg #[.int .i64 op, .int .u64 (n : Int), .slice none 0 0, .slice none 0 0], .int .i64 0] w (FmP (none) w) := by
 obtain ⟨va, vb, vd, rfl, h1, h2, h3⟩ := he
 obtain ⟨As, cs, rfl, _⟩ := h1.len
 obtain ⟨Ag, cg, rfl⟩ := h2.shape
 have H1 := Lib.hid h1
 have H2 := Lib.hid h2
 have H3 := Lib.hid h3
 obtain ⟨Am, cm, rfl, _⟩ := h3
 have B0 := Lib.hid (al2 w (.cells #[.slice As e.sigs.length cs, .int .i64 e.imports, .slice Ag e.globals.length cg, .slice Am e.muts.length cm, .bool e.mem] 26) (.cells #[.int .i64 op, .int .u64 (n : Int), .slice none 0 0, .slice none 0 0] 165))
 have E0 := Lib.hid ((Blk.new w 26 #[.slice As e.sigs.length cs, .int .i64 e.imports, .slice Ag e.globals.length cg, .slice Am e.muts.length cm, .bool e.mem]).alloc (.cells #[.int .i64 op, .int .u64 (n : Int), .slice none 0 0, .slice none 0 0] 165))
 have F0 := Lib.hid (Blk.newAt (w.alloc (.cells #[.slice As e.sigs.length cs, .int .i64 e.imports, .slice Ag e.globals.length cg, .slice Am e.muts.length cm, .bool e.mem] 26)) (N := w.heap.size + 1) 165 #[.int .i64 op, .int .u64 (n : Int), .slice none 0 0, .slice none 0 0] (by simp))
 clear h1 h2
 have HI := Lib.hid (show (grpOf op).isSome = false from hg)
 have HAc := Lib.hid (show accTuple op = .tuple #[.int .i64 0, .int .i64 0, .bool false, .bool false] by unfold accTuple; rw [hac])
 have g256 : (op == 256) = false := by simp [o256]
 have g258 : (op == 258) = false := by simp [o258]
 have g27 : (op == 27) = false := by simp [o27]
 have g35 : (op == 35) = false := by simp [o35]
 have g36 : (op == 36) = false := by simp [o36]
 have g16 : (op == 16) = false := by simp [o16]
 have g257 : (op == 257) = false := by simp [o257]
 have g63 : (op == 63) = false := by simp [o63]
 have g64 : (op == 64) = false := by simp [o64]
 rw [hmem] at B0 E0 F0 ⊢
 clear hmem
 clear hg hac o256 o258 o27 o35 o36 o16 o257 o63 o64
 obtain ⟨FF, hFF⟩ : ∃ F : Option (List Int × List Int), (none) = F := ⟨_, rfl⟩
 rw [hFF]
 have HFF := Lib.hid hFF
 clear hFF
 go_enter Tryz.func114, Tryz.ntmps114
 go_wp2_with fail
 refine (RSig_any op _).mono ?_
 rintro en w1 ⟨A1, c1, rfl, hr1, hb1⟩
 rw [HI.out]
 have B1 := Lib.hid (B0.out.trans (hb1.mono B0.out.size))
 have E1 := Lib.hid (E0.out.below hb1 E0.out.lt)
 have F1 := Lib.hid (F0.out.below hb1 F0.out.lt)
 have HR := Lib.hid hr1
 clear hb1 hr1
 have f0 := F1.out.cell 0
 have f1 := F1.out.cell 1
 simp at f0 f1
 have y1 := F1.out.lt
 have e0 := E1.out.cell 0
 have e2 := E1.out.cell 2
 have e3 := E1.out.cell 3
 have e4 := E1.out.cell 4
 simp at e0 e2 e3 e4
 have y2 := E1.out.lt
 go_wp2_with fail
 refine (refAccess_any op _).mono ?_
 rintro en w2 ⟨rfl, rfl⟩
 rw [HAc.out]
 go_wp2
 go_ret3
 exact FmP.no HFF.out.symm (IR.nil _) (IR.nil _) B1.out

end Go.Proofs.YtgmapikcpnffhaaGreat
