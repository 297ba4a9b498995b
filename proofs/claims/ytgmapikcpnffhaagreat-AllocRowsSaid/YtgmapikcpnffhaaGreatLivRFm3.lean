/-
 What an instruction in a row takes and answers, by the document: bellcrankref18.Form.
 Conditions: as each says.
-/
import Derived.Test.YtgmapikcpnffhaaGreatLivRFm2
namespace Go.Proofs.YtgmapikcpnffhaaGreat
open Go.RowKit Go.Bk Go.Bk.Liv Go.Bk.Num Go.Bk.Mem
set_option linter.unusedVariables false
set_option linter.unusedSimpArgs false

set_option maxRecDepth 100000 in
set_option maxHeartbeats 2000000 in
theorem lForm_272 (e : EnvD) (s : SigD) (c : CodeD) (ve vs vc : Value) (w : World) (he : EnvV w ve e) (hs : SigV w vs s) (hc : CodeV w vc c) (hmg : e.muts.length = e.globals.length) (ho : c.op = 272) :
  Calls Tryz.prog 85 #[ve, vs, vc] w (FmP (if c.n = 0 then some ([0], [0]) else none) w) := by
 have HE := Lib.hid he
 obtain ⟨va, vb, vd, rfl, h1, h2, h3⟩ := he
 obtain ⟨As, cs, rfl, _⟩ := h1.len
 obtain ⟨Ag, cg, rfl⟩ := h2.shape
 obtain ⟨Am, cm, rfl, _⟩ := h3
 obtain ⟨p, q, rfl, h4, h5⟩ := hs
 obtain ⟨Ap, cp, rfl⟩ := h4.shape
 obtain ⟨Aq, cq, rfl⟩ := h5.shape
 have HO := Lib.hid h5.ir
 obtain ⟨p, q, tt, rfl, hok, s1, s2, s3⟩ := hc
 obtain ⟨pA, pc, rfl⟩ := s1.shape
 obtain ⟨qA, qc, rfl⟩ := s2.shape
 obtain ⟨tA, tc, rfl⟩ := s3.shape
 have HOK := Lib.hid hok
 have HMG := Lib.hid hmg
 have B0 := Lib.hid (al3 w (.cells #[.slice As e.sigs.length cs, .int .i64 e.imports, .slice Ag e.globals.length cg, .slice Am e.muts.length cm, .bool e.mem] 26) (.cells #[.slice Ap s.inn.length cp, .slice Aq s.out.length cq] 28) (.cells #[.int .i64 c.op, .int .u64 (c.n : Int), .slice pA c.args.length pc, .slice qA c.outs.length qc, .slice tA c.to.length tc] 48))
 clear h1 h2 h4 h5 s1 s2 s3 hok hmg
 have g272 : (c.op == 272) = true := by simp [ho]
 have g273 : (c.op == 273) = false := by simp; omega
 have g277 : (c.op == 277) = false := by simp; omega
 have g274 : (c.op == 274) = false := by simp; omega
 have g275 : (c.op == 275) = false := by simp; omega
 have g276 : (c.op == 276) = false := by simp; omega
 have g27 : (c.op == 27) = false := by simp; omega
 have g256 : (c.op == 256) = false := by simp; omega
 clear ho
 obtain ⟨FF, hFF⟩ : ∃ F : Option (List Int × List Int), (if c.n = 0 then some ([0], [0]) else none) = F := ⟨_, rfl⟩
 rw [hFF]
 have HFF := Lib.hid hFF
 clear hFF
 go_enter Tryz.func85, Tryz.ntmps85
 by_cases h0 : c.n = 0
 ·have t0 := n_eq h0
  have HF := Lib.hid (HFF.out.symm.trans (if_pos h0))
  clear h0
  go_wp2_with fail
  go_region
  all_goals
   go_wp2
   go_ret3
   first
    | (refine FmP.yes HF.out (IR.drew (IR.one (Blk.alloc (Blk.newAt _ _ _ ?_) _))) (IR.drew (IR.one (Blk.newAt _ _ _ ?_))) (Below.drew ((B0.out.alloc B0.out.size _).alloc ?_ _)) <;> ((try simp); (try omega); done))
    | (refine FmP.yes HF.out (IR.drew (IR.one (Blk.newAt _ _ _ ?_))) (IR.drew (IR.one (Blk.alloc (Blk.newAt _ _ _ ?_) _))) (Below.drew ((B0.out.alloc B0.out.size _).alloc ?_ _)) <;> ((try simp); (try omega); done))
 ·have t0 := n_ne h0
  have HF := Lib.hid (HFF.out.symm.trans (if_neg h0))
  clear h0
  go_wp2_with fail
  go_region
  all_goals
   go_wp2
   go_ret3
   first
    | (refine FmP.no HF.out (IR.drew (IR.one (Blk.alloc (Blk.newAt _ _ _ ?_) _))) (IR.drew (IR.one (Blk.newAt _ _ _ ?_))) (Below.drew ((B0.out.alloc B0.out.size _).alloc ?_ _)) <;> ((try simp); (try omega); done))
    | (refine FmP.no HF.out (IR.drew (IR.one (Blk.newAt _ _ _ ?_))) (IR.drew (IR.one (Blk.alloc (Blk.newAt _ _ _ ?_) _))) (Below.drew ((B0.out.alloc B0.out.size _).alloc ?_ _)) <;> ((try simp); (try omega); done))


set_option maxRecDepth 100000 in
set_option maxHeartbeats 2000000 in
theorem lForm_273 (e : EnvD) (s : SigD) (c : CodeD) (ve vs vc : Value) (w : World) (he : EnvV w ve e) (hs : SigV w vs s) (hc : CodeV w vc c) (hmg : e.muts.length = e.globals.length) (ho : c.op = 273) :
  Calls Tryz.prog 85 #[ve, vs, vc] w (FmP (if c.n = 0 then some ([], []) else none) w) := by
 have HE := Lib.hid he
 obtain ⟨va, vb, vd, rfl, h1, h2, h3⟩ := he
 obtain ⟨As, cs, rfl, _⟩ := h1.len
 obtain ⟨Ag, cg, rfl⟩ := h2.shape
 obtain ⟨Am, cm, rfl, _⟩ := h3
 obtain ⟨p, q, rfl, h4, h5⟩ := hs
 obtain ⟨Ap, cp, rfl⟩ := h4.shape
 obtain ⟨Aq, cq, rfl⟩ := h5.shape
 have HO := Lib.hid h5.ir
 obtain ⟨p, q, tt, rfl, hok, s1, s2, s3⟩ := hc
 obtain ⟨pA, pc, rfl⟩ := s1.shape
 obtain ⟨qA, qc, rfl⟩ := s2.shape
 obtain ⟨tA, tc, rfl⟩ := s3.shape
 have HOK := Lib.hid hok
 have HMG := Lib.hid hmg
 have B0 := Lib.hid (al3 w (.cells #[.slice As e.sigs.length cs, .int .i64 e.imports, .slice Ag e.globals.length cg, .slice Am e.muts.length cm, .bool e.mem] 26) (.cells #[.slice Ap s.inn.length cp, .slice Aq s.out.length cq] 28) (.cells #[.int .i64 c.op, .int .u64 (c.n : Int), .slice pA c.args.length pc, .slice qA c.outs.length qc, .slice tA c.to.length tc] 48))
 clear h1 h2 h4 h5 s1 s2 s3 hok hmg
 have g272 : (c.op == 272) = false := by simp; omega
 have g273 : (c.op == 273) = true := by simp [ho]
 have g277 : (c.op == 277) = false := by simp; omega
 have g274 : (c.op == 274) = false := by simp; omega
 have g275 : (c.op == 275) = false := by simp; omega
 have g276 : (c.op == 276) = false := by simp; omega
 have g27 : (c.op == 27) = false := by simp; omega
 have g256 : (c.op == 256) = false := by simp; omega
 clear ho
 obtain ⟨FF, hFF⟩ : ∃ F : Option (List Int × List Int), (if c.n = 0 then some ([], []) else none) = F := ⟨_, rfl⟩
 rw [hFF]
 have HFF := Lib.hid hFF
 clear hFF
 go_enter Tryz.func85, Tryz.ntmps85
 by_cases h0 : c.n = 0
 ·have t0 := n_eq h0
  have HF := Lib.hid (HFF.out.symm.trans (if_pos h0))
  clear h0
  go_wp2_with fail
  go_quiet (fail)
  all_goals
   go_wp2
   go_ret3
   exact FmP.yes HF.out (IR.nil _) (IR.nil _) (below_drewN B0.out _)
 ·have t0 := n_ne h0
  have HF := Lib.hid (HFF.out.symm.trans (if_neg h0))
  clear h0
  go_wp2_with fail
  go_quiet (fail)
  all_goals
   go_wp2
   go_ret3
   exact FmP.no HF.out (IR.nil _) (IR.nil _) (below_drewN B0.out _)


set_option maxRecDepth 100000 in
set_option maxHeartbeats 2000000 in
theorem lForm_277 (e : EnvD) (s : SigD) (c : CodeD) (ve vs vc : Value) (w : World) (he : EnvV w ve e) (hs : SigV w vs s) (hc : CodeV w vc c) (hmg : e.muts.length = e.globals.length) (ho : c.op = 277) :
  Calls Tryz.prog 85 #[ve, vs, vc] w (FmP (if c.n = 0 then some ([], []) else none) w) := by
 have HE := Lib.hid he
 obtain ⟨va, vb, vd, rfl, h1, h2, h3⟩ := he
 obtain ⟨As, cs, rfl, _⟩ := h1.len
 obtain ⟨Ag, cg, rfl⟩ := h2.shape
 obtain ⟨Am, cm, rfl, _⟩ := h3
 obtain ⟨p, q, rfl, h4, h5⟩ := hs
 obtain ⟨Ap, cp, rfl⟩ := h4.shape
 obtain ⟨Aq, cq, rfl⟩ := h5.shape
 have HO := Lib.hid h5.ir
 obtain ⟨p, q, tt, rfl, hok, s1, s2, s3⟩ := hc
 obtain ⟨pA, pc, rfl⟩ := s1.shape
 obtain ⟨qA, qc, rfl⟩ := s2.shape
 obtain ⟨tA, tc, rfl⟩ := s3.shape
 have HOK := Lib.hid hok
 have HMG := Lib.hid hmg
 have B0 := Lib.hid (al3 w (.cells #[.slice As e.sigs.length cs, .int .i64 e.imports, .slice Ag e.globals.length cg, .slice Am e.muts.length cm, .bool e.mem] 26) (.cells #[.slice Ap s.inn.length cp, .slice Aq s.out.length cq] 28) (.cells #[.int .i64 c.op, .int .u64 (c.n : Int), .slice pA c.args.length pc, .slice qA c.outs.length qc, .slice tA c.to.length tc] 48))
 clear h1 h2 h4 h5 s1 s2 s3 hok hmg
 have g272 : (c.op == 272) = false := by simp; omega
 have g273 : (c.op == 273) = false := by simp; omega
 have g277 : (c.op == 277) = true := by simp [ho]
 have g274 : (c.op == 274) = false := by simp; omega
 have g275 : (c.op == 275) = false := by simp; omega
 have g276 : (c.op == 276) = false := by simp; omega
 have g27 : (c.op == 27) = false := by simp; omega
 have g256 : (c.op == 256) = false := by simp; omega
 clear ho
 obtain ⟨FF, hFF⟩ : ∃ F : Option (List Int × List Int), (if c.n = 0 then some ([], []) else none) = F := ⟨_, rfl⟩
 rw [hFF]
 have HFF := Lib.hid hFF
 clear hFF
 go_enter Tryz.func85, Tryz.ntmps85
 by_cases h0 : c.n = 0
 ·have t0 := n_eq h0
  have HF := Lib.hid (HFF.out.symm.trans (if_pos h0))
  clear h0
  go_wp2_with fail
  go_quiet (fail)
  all_goals
   go_wp2
   go_ret3
   exact FmP.yes HF.out (IR.nil _) (IR.nil _) (below_drewN B0.out _)
 ·have t0 := n_ne h0
  have HF := Lib.hid (HFF.out.symm.trans (if_neg h0))
  clear h0
  go_wp2_with fail
  go_quiet (fail)
  all_goals
   go_wp2
   go_ret3
   exact FmP.no HF.out (IR.nil _) (IR.nil _) (below_drewN B0.out _)


set_option maxRecDepth 100000 in
set_option maxHeartbeats 2000000 in
theorem lForm_274 (e : EnvD) (s : SigD) (c : CodeD) (ve vs vc : Value) (w : World) (he : EnvV w ve e) (hs : SigV w vs s) (hc : CodeV w vc c) (hmg : e.muts.length = e.globals.length) (ho : c.op = 274) :
  Calls Tryz.prog 85 #[ve, vs, vc] w (FmP (if c.n = 0 then some ([127], []) else none) w) := by
 have HE := Lib.hid he
 obtain ⟨va, vb, vd, rfl, h1, h2, h3⟩ := he
 obtain ⟨As, cs, rfl, _⟩ := h1.len
 obtain ⟨Ag, cg, rfl⟩ := h2.shape
 obtain ⟨Am, cm, rfl, _⟩ := h3
 obtain ⟨p, q, rfl, h4, h5⟩ := hs
 obtain ⟨Ap, cp, rfl⟩ := h4.shape
 obtain ⟨Aq, cq, rfl⟩ := h5.shape
 have HO := Lib.hid h5.ir
 obtain ⟨p, q, tt, rfl, hok, s1, s2, s3⟩ := hc
 obtain ⟨pA, pc, rfl⟩ := s1.shape
 obtain ⟨qA, qc, rfl⟩ := s2.shape
 obtain ⟨tA, tc, rfl⟩ := s3.shape
 have HOK := Lib.hid hok
 have HMG := Lib.hid hmg
 have B0 := Lib.hid (al3 w (.cells #[.slice As e.sigs.length cs, .int .i64 e.imports, .slice Ag e.globals.length cg, .slice Am e.muts.length cm, .bool e.mem] 26) (.cells #[.slice Ap s.inn.length cp, .slice Aq s.out.length cq] 28) (.cells #[.int .i64 c.op, .int .u64 (c.n : Int), .slice pA c.args.length pc, .slice qA c.outs.length qc, .slice tA c.to.length tc] 48))
 clear h1 h2 h4 h5 s1 s2 s3 hok hmg
 have g272 : (c.op == 272) = false := by simp; omega
 have g273 : (c.op == 273) = false := by simp; omega
 have g277 : (c.op == 277) = false := by simp; omega
 have g274 : (c.op == 274) = true := by simp [ho]
 have g275 : (c.op == 275) = false := by simp; omega
 have g276 : (c.op == 276) = false := by simp; omega
 have g27 : (c.op == 27) = false := by simp; omega
 have g256 : (c.op == 256) = false := by simp; omega
 clear ho
 obtain ⟨FF, hFF⟩ : ∃ F : Option (List Int × List Int), (if c.n = 0 then some ([127], []) else none) = F := ⟨_, rfl⟩
 rw [hFF]
 have HFF := Lib.hid hFF
 clear hFF
 go_enter Tryz.func85, Tryz.ntmps85
 by_cases h0 : c.n = 0
 ·have t0 := n_eq h0
  have HF := Lib.hid (HFF.out.symm.trans (if_pos h0))
  clear h0
  go_wp2_with fail
  go_region
  all_goals
   go_wp2
   go_ret3
   exact FmP.yes HF.out ((IR.one (Blk.newAt _ _ _ (by simp))).drew) (IR.nil _) ((B0.out.alloc B0.out.size _).drew)
 ·have t0 := n_ne h0
  have HF := Lib.hid (HFF.out.symm.trans (if_neg h0))
  clear h0
  go_wp2_with fail
  go_region
  all_goals
   go_wp2
   go_ret3
   exact FmP.no HF.out ((IR.one (Blk.newAt _ _ _ (by simp))).drew) (IR.nil _) ((B0.out.alloc B0.out.size _).drew)


set_option maxRecDepth 100000 in
set_option maxHeartbeats 2000000 in
theorem lForm_275 (e : EnvD) (s : SigD) (c : CodeD) (ve vs vc : Value) (w : World) (he : EnvV w ve e) (hs : SigV w vs s) (hc : CodeV w vc c) (hmg : e.muts.length = e.globals.length) (ho : c.op = 275) :
  Calls Tryz.prog 85 #[ve, vs, vc] w (FmP (if c.n = 0 then some ([127], []) else none) w) := by
 have HE := Lib.hid he
 obtain ⟨va, vb, vd, rfl, h1, h2, h3⟩ := he
 obtain ⟨As, cs, rfl, _⟩ := h1.len
 obtain ⟨Ag, cg, rfl⟩ := h2.shape
 obtain ⟨Am, cm, rfl, _⟩ := h3
 obtain ⟨p, q, rfl, h4, h5⟩ := hs
 obtain ⟨Ap, cp, rfl⟩ := h4.shape
 obtain ⟨Aq, cq, rfl⟩ := h5.shape
 have HO := Lib.hid h5.ir
 obtain ⟨p, q, tt, rfl, hok, s1, s2, s3⟩ := hc
 obtain ⟨pA, pc, rfl⟩ := s1.shape
 obtain ⟨qA, qc, rfl⟩ := s2.shape
 obtain ⟨tA, tc, rfl⟩ := s3.shape
 have HOK := Lib.hid hok
 have HMG := Lib.hid hmg
 have B0 := Lib.hid (al3 w (.cells #[.slice As e.sigs.length cs, .int .i64 e.imports, .slice Ag e.globals.length cg, .slice Am e.muts.length cm, .bool e.mem] 26) (.cells #[.slice Ap s.inn.length cp, .slice Aq s.out.length cq] 28) (.cells #[.int .i64 c.op, .int .u64 (c.n : Int), .slice pA c.args.length pc, .slice qA c.outs.length qc, .slice tA c.to.length tc] 48))
 clear h1 h2 h4 h5 s1 s2 s3 hok hmg
 have g272 : (c.op == 272) = false := by simp; omega
 have g273 : (c.op == 273) = false := by simp; omega
 have g277 : (c.op == 277) = false := by simp; omega
 have g274 : (c.op == 274) = false := by simp; omega
 have g275 : (c.op == 275) = true := by simp [ho]
 have g276 : (c.op == 276) = false := by simp; omega
 have g27 : (c.op == 27) = false := by simp; omega
 have g256 : (c.op == 256) = false := by simp; omega
 clear ho
 obtain ⟨FF, hFF⟩ : ∃ F : Option (List Int × List Int), (if c.n = 0 then some ([127], []) else none) = F := ⟨_, rfl⟩
 rw [hFF]
 have HFF := Lib.hid hFF
 clear hFF
 go_enter Tryz.func85, Tryz.ntmps85
 by_cases h0 : c.n = 0
 ·have t0 := n_eq h0
  have HF := Lib.hid (HFF.out.symm.trans (if_pos h0))
  clear h0
  go_wp2_with fail
  go_region
  all_goals
   go_wp2
   go_ret3
   exact FmP.yes HF.out ((IR.one (Blk.newAt _ _ _ (by simp))).drew) (IR.nil _) ((B0.out.alloc B0.out.size _).drew)
 ·have t0 := n_ne h0
  have HF := Lib.hid (HFF.out.symm.trans (if_neg h0))
  clear h0
  go_wp2_with fail
  go_region
  all_goals
   go_wp2
   go_ret3
   exact FmP.no HF.out ((IR.one (Blk.newAt _ _ _ (by simp))).drew) (IR.nil _) ((B0.out.alloc B0.out.size _).drew)


set_option maxRecDepth 100000 in
set_option maxHeartbeats 2000000 in
theorem lForm_276 (e : EnvD) (s : SigD) (c : CodeD) (ve vs vc : Value) (w : World) (he : EnvV w ve e) (hs : SigV w vs s) (hc : CodeV w vc c) (hmg : e.muts.length = e.globals.length) (ho : c.op = 276) :
  Calls Tryz.prog 85 #[ve, vs, vc] w (FmP (if c.n = 0 then some (s.out, []) else none) w) := by
 have HE := Lib.hid he
 obtain ⟨va, vb, vd, rfl, h1, h2, h3⟩ := he
 obtain ⟨As, cs, rfl, _⟩ := h1.len
 obtain ⟨Ag, cg, rfl⟩ := h2.shape
 obtain ⟨Am, cm, rfl, _⟩ := h3
 obtain ⟨p, q, rfl, h4, h5⟩ := hs
 obtain ⟨Ap, cp, rfl⟩ := h4.shape
 obtain ⟨Aq, cq, rfl⟩ := h5.shape
 have HO := Lib.hid h5.ir
 obtain ⟨p, q, tt, rfl, hok, s1, s2, s3⟩ := hc
 obtain ⟨pA, pc, rfl⟩ := s1.shape
 obtain ⟨qA, qc, rfl⟩ := s2.shape
 obtain ⟨tA, tc, rfl⟩ := s3.shape
 have HOK := Lib.hid hok
 have HMG := Lib.hid hmg
 have B0 := Lib.hid (al3 w (.cells #[.slice As e.sigs.length cs, .int .i64 e.imports, .slice Ag e.globals.length cg, .slice Am e.muts.length cm, .bool e.mem] 26) (.cells #[.slice Ap s.inn.length cp, .slice Aq s.out.length cq] 28) (.cells #[.int .i64 c.op, .int .u64 (c.n : Int), .slice pA c.args.length pc, .slice qA c.outs.length qc, .slice tA c.to.length tc] 48))
 clear h1 h2 h4 h5 s1 s2 s3 hok hmg
 have g272 : (c.op == 272) = false := by simp; omega
 have g273 : (c.op == 273) = false := by simp; omega
 have g277 : (c.op == 277) = false := by simp; omega
 have g274 : (c.op == 274) = false := by simp; omega
 have g275 : (c.op == 275) = false := by simp; omega
 have g276 : (c.op == 276) = true := by simp [ho]
 have g27 : (c.op == 27) = false := by simp; omega
 have g256 : (c.op == 256) = false := by simp; omega
 clear ho
 obtain ⟨FF, hFF⟩ : ∃ F : Option (List Int × List Int), (if c.n = 0 then some (s.out, []) else none) = F := ⟨_, rfl⟩
 rw [hFF]
 have HFF := Lib.hid hFF
 clear hFF
 go_enter Tryz.func85, Tryz.ntmps85
 by_cases h0 : c.n = 0
 ·have t0 := n_eq h0
  have HF := Lib.hid (HFF.out.symm.trans (if_pos h0))
  clear h0
  go_wp2_with fail
  go_quiet (fail)
  all_goals
   go_wp2
   go_ret3
   exact FmP.yes HF.out ((HO.out.below B0.out (Nat.le_refl _)).drewN _) (IR.nil _) (below_drewN B0.out _)
 ·have t0 := n_ne h0
  have HF := Lib.hid (HFF.out.symm.trans (if_neg h0))
  clear h0
  go_wp2_with fail
  go_quiet (fail)
  all_goals
   go_wp2
   go_ret3
   exact FmP.no HF.out ((HO.out.below B0.out (Nat.le_refl _)).drewN _) (IR.nil _) (below_drewN B0.out _)


set_option maxRecDepth 100000 in
set_option maxHeartbeats 2000000 in
theorem lForm_27 (e : EnvD) (s : SigD) (c : CodeD) (ve vs vc : Value) (w : World) (he : EnvV w ve e) (hs : SigV w vs s) (hc : CodeV w vc c) (hmg : e.muts.length = e.globals.length) (ho : c.op = 27) :
  Calls Tryz.prog 85 #[ve, vs, vc] w (FmP (if c.n = 0 then some ([0, 0, 127], [0]) else none) w) := by
 have HE := Lib.hid he
 obtain ⟨va, vb, vd, rfl, h1, h2, h3⟩ := he
 obtain ⟨As, cs, rfl, _⟩ := h1.len
 obtain ⟨Ag, cg, rfl⟩ := h2.shape
 obtain ⟨Am, cm, rfl, _⟩ := h3
 obtain ⟨p, q, rfl, h4, h5⟩ := hs
 obtain ⟨Ap, cp, rfl⟩ := h4.shape
 obtain ⟨Aq, cq, rfl⟩ := h5.shape
 have HO := Lib.hid h5.ir
 obtain ⟨p, q, tt, rfl, hok, s1, s2, s3⟩ := hc
 obtain ⟨pA, pc, rfl⟩ := s1.shape
 obtain ⟨qA, qc, rfl⟩ := s2.shape
 obtain ⟨tA, tc, rfl⟩ := s3.shape
 have HOK := Lib.hid hok
 have HMG := Lib.hid hmg
 have B0 := Lib.hid (al3 w (.cells #[.slice As e.sigs.length cs, .int .i64 e.imports, .slice Ag e.globals.length cg, .slice Am e.muts.length cm, .bool e.mem] 26) (.cells #[.slice Ap s.inn.length cp, .slice Aq s.out.length cq] 28) (.cells #[.int .i64 c.op, .int .u64 (c.n : Int), .slice pA c.args.length pc, .slice qA c.outs.length qc, .slice tA c.to.length tc] 48))
 clear h1 h2 h4 h5 s1 s2 s3 hok hmg
 have g272 : (c.op == 272) = false := by simp; omega
 have g273 : (c.op == 273) = false := by simp; omega
 have g277 : (c.op == 277) = false := by simp; omega
 have g274 : (c.op == 274) = false := by simp; omega
 have g275 : (c.op == 275) = false := by simp; omega
 have g276 : (c.op == 276) = false := by simp; omega
 have g27 : (c.op == 27) = true := by simp [ho]
 have g256 : (c.op == 256) = false := by simp; omega
 clear ho
 obtain ⟨FF, hFF⟩ : ∃ F : Option (List Int × List Int), (if c.n = 0 then some ([0, 0, 127], [0]) else none) = F := ⟨_, rfl⟩
 rw [hFF]
 have HFF := Lib.hid hFF
 clear hFF
 go_enter Tryz.func85, Tryz.ntmps85
 by_cases h0 : c.n = 0
 ·have t0 := n_eq h0
  have HF := Lib.hid (HFF.out.symm.trans (if_pos h0))
  clear h0
  go_wp2_with fail
  go_region
  all_goals
   go_wp2
   go_ret3
   first
    | (refine FmP.yes HF.out (IR.drew (IR.three (Blk.alloc (Blk.newAt _ _ _ ?_) _))) (IR.drew (IR.one (Blk.newAt _ _ _ ?_))) (Below.drew ((B0.out.alloc B0.out.size _).alloc ?_ _)) <;> ((try simp); (try omega); done))
    | (refine FmP.yes HF.out (IR.drew (IR.three (Blk.newAt _ _ _ ?_))) (IR.drew (IR.one (Blk.alloc (Blk.newAt _ _ _ ?_) _))) (Below.drew ((B0.out.alloc B0.out.size _).alloc ?_ _)) <;> ((try simp); (try omega); done))
 ·have t0 := n_ne h0
  have HF := Lib.hid (HFF.out.symm.trans (if_neg h0))
  clear h0
  go_wp2_with fail
  go_region
  all_goals
   go_wp2
   go_ret3
   first
    | (refine FmP.no HF.out (IR.drew (IR.three (Blk.alloc (Blk.newAt _ _ _ ?_) _))) (IR.drew (IR.one (Blk.newAt _ _ _ ?_))) (Below.drew ((B0.out.alloc B0.out.size _).alloc ?_ _)) <;> ((try simp); (try omega); done))
    | (refine FmP.no HF.out (IR.drew (IR.three (Blk.newAt _ _ _ ?_))) (IR.drew (IR.one (Blk.alloc (Blk.newAt _ _ _ ?_) _))) (Below.drew ((B0.out.alloc B0.out.size _).alloc ?_ _)) <;> ((try simp); (try omega); done))


set_option maxRecDepth 100000 in
set_option maxHeartbeats 2000000 in
theorem lForm_256 (e : EnvD) (s : SigD) (c : CodeD) (ve vs vc : Value) (w : World) (he : EnvV w ve e) (hs : SigV w vs s) (hc : CodeV w vc c) (hmg : e.muts.length = e.globals.length) (ho : c.op = 256) :
  Calls Tryz.prog 85 #[ve, vs, vc] w (FmP (some ([], [0])) w) := by
 have HE := Lib.hid he
 obtain ⟨va, vb, vd, rfl, h1, h2, h3⟩ := he
 obtain ⟨As, cs, rfl, _⟩ := h1.len
 obtain ⟨Ag, cg, rfl⟩ := h2.shape
 obtain ⟨Am, cm, rfl, _⟩ := h3
 obtain ⟨p, q, rfl, h4, h5⟩ := hs
 obtain ⟨Ap, cp, rfl⟩ := h4.shape
 obtain ⟨Aq, cq, rfl⟩ := h5.shape
 have HO := Lib.hid h5.ir
 obtain ⟨p, q, tt, rfl, hok, s1, s2, s3⟩ := hc
 obtain ⟨pA, pc, rfl⟩ := s1.shape
 obtain ⟨qA, qc, rfl⟩ := s2.shape
 obtain ⟨tA, tc, rfl⟩ := s3.shape
 have HOK := Lib.hid hok
 have HMG := Lib.hid hmg
 have B0 := Lib.hid (al3 w (.cells #[.slice As e.sigs.length cs, .int .i64 e.imports, .slice Ag e.globals.length cg, .slice Am e.muts.length cm, .bool e.mem] 26) (.cells #[.slice Ap s.inn.length cp, .slice Aq s.out.length cq] 28) (.cells #[.int .i64 c.op, .int .u64 (c.n : Int), .slice pA c.args.length pc, .slice qA c.outs.length qc, .slice tA c.to.length tc] 48))
 clear h1 h2 h4 h5 s1 s2 s3 hok hmg
 have g272 : (c.op == 272) = false := by simp; omega
 have g273 : (c.op == 273) = false := by simp; omega
 have g277 : (c.op == 277) = false := by simp; omega
 have g274 : (c.op == 274) = false := by simp; omega
 have g275 : (c.op == 275) = false := by simp; omega
 have g276 : (c.op == 276) = false := by simp; omega
 have g27 : (c.op == 27) = false := by simp; omega
 have g256 : (c.op == 256) = true := by simp [ho]
 clear ho
 obtain ⟨FF, hFF⟩ : ∃ F : Option (List Int × List Int), (some ([], [0])) = F := ⟨_, rfl⟩
 rw [hFF]
 have HFF := Lib.hid hFF
 clear hFF
 go_enter Tryz.func85, Tryz.ntmps85
 go_wp2
 go_ret3
 exact FmP.yes HFF.out.symm (IR.nil _) (IR.one (Blk.newAt _ _ _ (by simp))) (B0.out.alloc B0.out.size _)

set_option maxRecDepth 100000 in
set_option maxHeartbeats 2000000 in
theorem lForm_off (e : EnvD) (s : SigD) (c : CodeD) (ve vs vc : Value) (w : World) (he : EnvV w ve e) (hs : SigV w vs s) (hc : CodeV w vc c) (hmg : e.muts.length = e.globals.length) (o272 : c.op ≠ 272) (o273 : c.op ≠ 273) (o277 : c.op ≠ 277) (o274 : c.op ≠ 274) (o275 : c.op ≠ 275) (o276 : c.op ≠ 276) (o27 : c.op ≠ 27) (o256 : c.op ≠ 256) :
  Calls Tryz.prog 85 #[ve, vs, vc] w (FmP (formV e s c.op c.n) w) := by
 have HE := Lib.hid he
 obtain ⟨va, vb, vd, rfl, h1, h2, h3⟩ := he
 obtain ⟨As, cs, rfl, _⟩ := h1.len
 obtain ⟨Ag, cg, rfl⟩ := h2.shape
 obtain ⟨Am, cm, rfl, _⟩ := h3
 obtain ⟨p, q, rfl, h4, h5⟩ := hs
 obtain ⟨Ap, cp, rfl⟩ := h4.shape
 obtain ⟨Aq, cq, rfl⟩ := h5.shape
 have HO := Lib.hid h5.ir
 obtain ⟨p, q, tt, rfl, hok, s1, s2, s3⟩ := hc
 obtain ⟨pA, pc, rfl⟩ := s1.shape
 obtain ⟨qA, qc, rfl⟩ := s2.shape
 obtain ⟨tA, tc, rfl⟩ := s3.shape
 have HOK := Lib.hid hok
 have HMG := Lib.hid hmg
 have B0 := Lib.hid (al3 w (.cells #[.slice As e.sigs.length cs, .int .i64 e.imports, .slice Ag e.globals.length cg, .slice Am e.muts.length cm, .bool e.mem] 26) (.cells #[.slice Ap s.inn.length cp, .slice Aq s.out.length cq] 28) (.cells #[.int .i64 c.op, .int .u64 (c.n : Int), .slice pA c.args.length pc, .slice qA c.outs.length qc, .slice tA c.to.length tc] 48))
 clear h1 h2 h4 h5 s1 s2 s3 hok hmg
 have HFC := Lib.hid (fForm_any e s _ c.op c.n HOK.out.1 _ (HE.out.below B0.out (Nat.le_refl _)) HMG.out o256 o27 (by omega))
 have g272 : (c.op == 272) = false := by simp [o272]
 have g273 : (c.op == 273) = false := by simp [o273]
 have g277 : (c.op == 277) = false := by simp [o277]
 have g274 : (c.op == 274) = false := by simp [o274]
 have g275 : (c.op == 275) = false := by simp [o275]
 have g276 : (c.op == 276) = false := by simp [o276]
 have g27 : (c.op == 27) = false := by simp [o27]
 have g256 : (c.op == 256) = false := by simp [o256]
 clear o272 o273 o277 o274 o275 o276 o27 o256
 obtain ⟨FF, hFF⟩ : ∃ F : Option (List Int × List Int), (formV e s c.op c.n) = F := ⟨_, rfl⟩
 rw [hFF]
 have HFF := Lib.hid hFF
 clear hFF
 go_enter Tryz.func85, Tryz.ntmps85
 go_wp2_with fail
 have hfc := HFC.out
 rw [HFF.out] at hfc
 refine hfc.mono ?_
 rintro en w1 ⟨vi, vo, ok, i, o, rfl, q1, q2, q3, q4, q5⟩
 have Q1 := Lib.hid q1
 have Q2 := Lib.hid q2
 have Q3 := Lib.hid q3
 have Q4 := Lib.hid q4
 have Q5 := Lib.hid (B0.out.trans (q5.mono B0.out.size))
 clear q1 q2 q3 q4 q5 hfc
 go_wp2
 go_ret3
 exact ⟨vi, vo, ok, i, o, rfl, Q1.out, Q2.out, Q3.out, Q4.out, Q5.out⟩

theorem lForm_any (e : EnvD) (s : SigD) (c : CodeD) (ve vs vc : Value) (w : World) (he : EnvV w ve e) (hs : SigV w vs s) (hc : CodeV w vc c) (hmg : e.muts.length = e.globals.length) :
  Calls Tryz.prog 85 #[ve, vs, vc] w (FmP (formV e s c.op c.n) w) := by
 by_cases o272 : c.op = 272
 ·have h := lForm_272 e s c ve vs vc w he hs hc hmg o272
  rw [o272]
  exact h
 by_cases o273 : c.op = 273
 ·have h := lForm_273 e s c ve vs vc w he hs hc hmg o273
  rw [o273]
  exact h
 by_cases o277 : c.op = 277
 ·have h := lForm_277 e s c ve vs vc w he hs hc hmg o277
  rw [o277]
  exact h
 by_cases o274 : c.op = 274
 ·have h := lForm_274 e s c ve vs vc w he hs hc hmg o274
  rw [o274]
  exact h
 by_cases o275 : c.op = 275
 ·have h := lForm_275 e s c ve vs vc w he hs hc hmg o275
  rw [o275]
  exact h
 by_cases o276 : c.op = 276
 ·have h := lForm_276 e s c ve vs vc w he hs hc hmg o276
  rw [o276]
  exact h
 by_cases o27 : c.op = 27
 ·have h := lForm_27 e s c ve vs vc w he hs hc hmg o27
  rw [o27]
  exact h
 by_cases o256 : c.op = 256
 ·have h := lForm_256 e s c ve vs vc w he hs hc hmg o256
  rw [o256]
  exact h
 exact lForm_off e s c ve vs vc w he hs hc hmg o272 o273 o277 o274 o275 o276 o27 o256
end Go.Proofs.YtgmapikcpnffhaaGreat
