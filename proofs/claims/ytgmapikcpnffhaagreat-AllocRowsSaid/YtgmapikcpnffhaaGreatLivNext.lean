/-
 The instructions that may come behind one: lower.next, and the document's Next.
 Conditions: an OpIf has a target.
-/
import Derived.Test.YtgmapikcpnffhaaGreatLivIns
namespace Go.Proofs.YtgmapikcpnffhaaGreat
open Go.RowKit Go.Bk Go.Bk.Liv
set_option linter.unusedVariables false
set_option linter.unusedSimpArgs false

theorem al2 (w : World) (a b : Obj) : Below w.heap.size w ((w.alloc a).alloc b) := ((Below.refl _ _).alloc (Nat.le_refl _) _).alloc (by simp) _
def NextPost (c : CodeD) (i : Nat) (w : World) (e : Ending) (w' : World) : Prop := ∃ v, e = .returned v ∧ IR w' v (nextOf c i) ∧ Below w.heap.size w w'

set_option maxRecDepth 100000 in
set_option maxHeartbeats 2000000 in
theorem lnext_any (r : RowD) (vr : Value) (i : Nat) (c : CodeD) (w : World) (hr : RowV w vr r) (hi : r.code[i]? = some c) (hto : c.op = 274 → 0 < c.to.length) :
  Calls Tryz.prog 104 #[vr, .int .i64 (i : Int)] w (NextPost c i w) := by
 obtain ⟨vp, vq, vr, vs, rfl, h4, h5, h6, h7⟩ := hr
 obtain ⟨Ap, cp, rfl⟩ := h4.shape
 obtain ⟨Aq, cq, rfl⟩ := h5.shape
 obtain ⟨Ar, cr, rfl⟩ := h6.shape
 obtain ⟨Ac, cc, rfl, _⟩ := h7.len
 have l7 := h7.lenV
 have hlt : i < r.code.length := (List.getElem?_eq_some_iff.1 hi).1
 have hlt2 : (i : Int) < (r.code.length : Int) := by omega
 obtain ⟨gb, go, p, q, t, rfl, hgb, c0, c1, c2, c3, c4, s0, s1, s2, s3⟩ := h7.code hi
 obtain ⟨pA, pc, rfl⟩ := s1.shape
 obtain ⟨qA, qc, rfl⟩ := s2.shape
 obtain ⟨tA, tc, rfl⟩ := s3.shape
 have hgb1 : gb < w.heap.size + 1 := by omega
 have hgb2 : gb < w.heap.size + 1 + 1 := by omega
 have HT := Lib.hid s3.ir
 have HTO := Lib.hid hto
 clear h4 h5 h6 h7 hi s0 s1 s2 s3 hto
 obtain ⟨op, n, args, outs, to⟩ := c
 simp only at *
 by_cases e276 : op = 276
 ·subst e276
  have HN := Lib.hid (show nextOf ⟨276, n, args, outs, to⟩ i = [] by simp [nextOf])
  go_enter Tryz.func104, Tryz.ntmps104
  go_wp2
  go_ret
  refine ⟨_, rfl, ?_, al2 _ _ _⟩
  rw [HN.out]
  exact IR.nil _
 by_cases e277 : op = 277
 ·subst e277
  have HN := Lib.hid (show nextOf ⟨277, n, args, outs, to⟩ i = [] by simp [nextOf])
  go_enter Tryz.func104, Tryz.ntmps104
  go_wp2
  go_ret
  refine ⟨_, rfl, ?_, al2 _ _ _⟩
  rw [HN.out]
  exact IR.nil _
 by_cases e273 : op = 273
 ·subst e273
  have HN := Lib.hid (show nextOf ⟨273, n, args, outs, to⟩ i = to by simp [nextOf])
  go_enter Tryz.func104, Tryz.ntmps104
  go_wp2
  go_ret
  refine ⟨_, rfl, ?_, al2 _ _ _⟩
  rw [HN.out]
  exact HT.out.below (al2 _ _ _) (Nat.le_refl _)
 by_cases e275 : op = 275
 ·subst e275
  have HN := Lib.hid (show nextOf ⟨275, n, args, outs, to⟩ i = to by simp [nextOf])
  go_enter Tryz.func104, Tryz.ntmps104
  go_wp2
  go_ret
  refine ⟨_, rfl, ?_, al2 _ _ _⟩
  rw [HN.out]
  exact HT.out.below (al2 _ _ _) (Nat.le_refl _)
 by_cases e274 : op = 274
 ·subst e274
  have h0 := HTO.out rfl
  have h00 : (0 : Int) < (to.length : Int) := by omega
  obtain ⟨x, hx⟩ : ∃ x, to[0]? = some x := ⟨_, List.getElem?_eq_getElem h0⟩
  obtain ⟨tb, t0, rfl, htb, d0⟩ := HT.out.cell hx
  rw [Nat.add_zero] at d0
  have htb1 : tb < w.heap.size + 1 := by omega
  have htb2 : tb < w.heap.size + 1 + 1 := by omega
  have HX := Lib.hid (show to.headD 0 = x by cases to with
   | nil => simp at hx
   | cons a l => simp at hx; exact hx)
  clear hx
  have HN := Lib.hid (show nextOf ⟨274, n, args, outs, to⟩ i = [(i : Int) + 1, to.headD 0] by simp [nextOf])
  go_enter Tryz.func104, Tryz.ntmps104
  go_wp2
  go_ret
  refine ⟨_, rfl, ?_, al3 _ _ _ _⟩
  rw [HN.out, HX.out]
  exact IR.two (x := (i : Int) + 1) (y := x) (Blk.newAt _ _ _ (by simp))
 have f276 : (op == 276) = false := by simpa using e276
 have f277 : (op == 277) = false := by simpa using e277
 have f273 : (op == 273) = false := by simpa using e273
 have f275 : (op == 275) = false := by simpa using e275
 have f274 : (op == 274) = false := by simpa using e274
 have HN := Lib.hid (show nextOf ⟨op, n, args, outs, to⟩ i = [(i : Int) + 1] by simp [nextOf, e276, e277, e273, e275, e274])
 clear e276 e277 e273 e275 e274
 go_enter Tryz.func104, Tryz.ntmps104
 go_wp2
 go_ret
 refine ⟨_, rfl, ?_, al3 _ _ _ _⟩
 rw [HN.out]
 exact IR.one (x := (i : Int) + 1) (Blk.newAt _ _ _ (by simp))

set_option maxRecDepth 100000 in
set_option maxHeartbeats 2000000 in
theorem rnext_any (r : RowD) (vr : Value) (i : Nat) (c : CodeD) (w : World) (hr : RowV w vr r) (hi : r.code[i]? = some c) (hto : c.op = 274 → 0 < c.to.length) :
  Calls Tryz.prog 86 #[vr, .int .i64 (i : Int)] w (NextPost c i w) := by
 obtain ⟨vp, vq, vr, vs, rfl, h4, h5, h6, h7⟩ := hr
 obtain ⟨Ap, cp, rfl⟩ := h4.shape
 obtain ⟨Aq, cq, rfl⟩ := h5.shape
 obtain ⟨Ar, cr, rfl⟩ := h6.shape
 obtain ⟨Ac, cc, rfl, _⟩ := h7.len
 have l7 := h7.lenV
 have hlt : i < r.code.length := (List.getElem?_eq_some_iff.1 hi).1
 have hlt2 : (i : Int) < (r.code.length : Int) := by omega
 obtain ⟨gb, go, p, q, t, rfl, hgb, c0, c1, c2, c3, c4, s0, s1, s2, s3⟩ := h7.code hi
 obtain ⟨pA, pc, rfl⟩ := s1.shape
 obtain ⟨qA, qc, rfl⟩ := s2.shape
 obtain ⟨tA, tc, rfl⟩ := s3.shape
 have hgb1 : gb < w.heap.size + 1 := by omega
 have hgb2 : gb < w.heap.size + 1 + 1 := by omega
 have HT := Lib.hid s3.ir
 have HTO := Lib.hid hto
 clear h4 h5 h6 h7 hi s0 s1 s2 s3 hto
 obtain ⟨op, n, args, outs, to⟩ := c
 simp only at *
 by_cases e276 : op = 276
 ·subst e276
  have HN := Lib.hid (show nextOf ⟨276, n, args, outs, to⟩ i = [] by simp [nextOf])
  go_enter Tryz.func86, Tryz.ntmps86
  go_wp2
  go_ret
  refine ⟨_, rfl, ?_, al2 _ _ _⟩
  rw [HN.out]
  exact IR.nil _
 by_cases e277 : op = 277
 ·subst e277
  have HN := Lib.hid (show nextOf ⟨277, n, args, outs, to⟩ i = [] by simp [nextOf])
  go_enter Tryz.func86, Tryz.ntmps86
  go_wp2
  go_ret
  refine ⟨_, rfl, ?_, al2 _ _ _⟩
  rw [HN.out]
  exact IR.nil _
 by_cases e273 : op = 273
 ·subst e273
  have HN := Lib.hid (show nextOf ⟨273, n, args, outs, to⟩ i = to by simp [nextOf])
  go_enter Tryz.func86, Tryz.ntmps86
  go_wp2
  go_ret
  refine ⟨_, rfl, ?_, al2 _ _ _⟩
  rw [HN.out]
  exact HT.out.below (al2 _ _ _) (Nat.le_refl _)
 by_cases e275 : op = 275
 ·subst e275
  have HN := Lib.hid (show nextOf ⟨275, n, args, outs, to⟩ i = to by simp [nextOf])
  go_enter Tryz.func86, Tryz.ntmps86
  go_wp2
  go_ret
  refine ⟨_, rfl, ?_, al2 _ _ _⟩
  rw [HN.out]
  exact HT.out.below (al2 _ _ _) (Nat.le_refl _)
 by_cases e274 : op = 274
 ·subst e274
  have h0 := HTO.out rfl
  have h00 : (0 : Int) < (to.length : Int) := by omega
  obtain ⟨x, hx⟩ : ∃ x, to[0]? = some x := ⟨_, List.getElem?_eq_getElem h0⟩
  obtain ⟨tb, t0, rfl, htb, d0⟩ := HT.out.cell hx
  rw [Nat.add_zero] at d0
  have htb1 : tb < w.heap.size + 1 := by omega
  have htb2 : tb < w.heap.size + 1 + 1 := by omega
  have HX := Lib.hid (show to.headD 0 = x by cases to with
   | nil => simp at hx
   | cons a l => simp at hx; exact hx)
  clear hx
  have HN := Lib.hid (show nextOf ⟨274, n, args, outs, to⟩ i = [(i : Int) + 1, to.headD 0] by simp [nextOf])
  go_enter Tryz.func86, Tryz.ntmps86
  go_wp2
  go_ret
  refine ⟨_, rfl, ?_, al3 _ _ _ _⟩
  rw [HN.out, HX.out]
  exact IR.two (x := (i : Int) + 1) (y := x) (Blk.newAt _ _ _ (by simp))
 have f276 : (op == 276) = false := by simpa using e276
 have f277 : (op == 277) = false := by simpa using e277
 have f273 : (op == 273) = false := by simpa using e273
 have f275 : (op == 275) = false := by simpa using e275
 have f274 : (op == 274) = false := by simpa using e274
 have HN := Lib.hid (show nextOf ⟨op, n, args, outs, to⟩ i = [(i : Int) + 1] by simp [nextOf, e276, e277, e273, e275, e274])
 clear e276 e277 e273 e275 e274
 go_enter Tryz.func86, Tryz.ntmps86
 go_wp2
 go_ret
 refine ⟨_, rfl, ?_, al3 _ _ _ _⟩
 rw [HN.out]
 exact IR.one (x := (i : Int) + 1) (Blk.newAt _ _ _ (by simp))

/-- a row's box and an environment's, read as values -/
theorem check1_any (e : EnvD) (r : RowD) (c : CodeD) (be br : Nat) (ve vr vc : Value) (va vr' : Array Value) (w : World) (he : EnvV w (.agg va) e) (hr : RowV w (.agg vr') r) (hc : CodeV w vc c) (hmg : e.muts.length = e.globals.length)
  (hbe : Blk w be 26 va) (hbr : Blk w br 31 vr') :
  Calls Tryz.prog 64 #[vc, .pointer (some ⟨be, 0, none⟩), .pointer (some ⟨br, 0, none⟩)] w fun en w' => en = .returned (.bool (!codeOk e r c)) ∧ Below w.heap.size w w' := by
 have HE := Lib.hid he
 have HR := Lib.hid hr
 have HC := Lib.hid hc
 have HMG := Lib.hid hmg
 obtain ⟨va', vb, vd, e1, h1, h2, h3⟩ := he
 obtain ⟨As, cs, rfl, _⟩ := h1.len
 obtain ⟨Ag, cg, rfl⟩ := h2.shape
 obtain ⟨Am, cm, rfl, _⟩ := h3
 obtain ⟨vp, vq, vr, vs, e2, h4, h5, h6, h7⟩ := hr
 obtain ⟨Ap, cp, rfl⟩ := h4.shape
 obtain ⟨Aq, cq, rfl⟩ := h5.shape
 obtain ⟨Ar, cr, rfl⟩ := h6.shape
 obtain ⟨Ac, cc, rfl, _⟩ := h7.len
 obtain ⟨v2, v3, v4, rfl, hok, h8, h9, h10⟩ := hc
 obtain ⟨A2, c2, rfl⟩ := h8.shape
 obtain ⟨A3, c3, rfl⟩ := h9.shape
 obtain ⟨A4, c4, rfl⟩ := h10.shape
 injection e1 with e1
 injection e2 with e2
 subst e1
 subst e2
 obtain ⟨r0, r1, r2, r3, r4⟩ := blk5 hbr
 obtain ⟨d0, d1, d2, d3, d4⟩ := blk5 hbe
 have hl1 := hbr.lt
 have hl2 := hbe.lt
 clear h1 h2 h4 h5 h6 h7 h8 h9 h10 hbe hbr hmg hok
 go_enter Tryz.func64, Tryz.ntmps64
 go_wp2_with fail
 have B0 := Lib.hid (show Below w.heap.size w (w.alloc (.cells #[.int .i64 c.op, .int .u64 (c.n : Int), .slice A2 c.args.length c2, .slice A3 c.outs.length c3, .slice A4 c.to.length c4] 48)) from (Below.refl _ _).alloc (Nat.le_refl _) _)
 refine (instruction_any e r c _ _ _ _ (HE.out.below B0.out (Nat.le_refl _)) (HR.out.below B0.out (Nat.le_refl _)) (HC.out.below B0.out (Nat.le_refl _)) HMG.out).mono ?_
 rintro en w1 ⟨rfl, hb1⟩
 have HB := Lib.hid (B0.out.trans (hb1.mono B0.out.size))
 clear hb1
 go_wp2
 go_ret
 exact ⟨rfl, HB.out⟩
end Go.Proofs.YtgmapikcpnffhaaGreat
