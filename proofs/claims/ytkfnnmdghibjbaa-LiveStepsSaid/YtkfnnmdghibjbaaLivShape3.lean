/-
  What an instruction takes and answers: lower.shapeOf, of any operator.
  Conditions: as each says.
-/
import Derived.Test.YtkfnnmdghibjbaaLivShape2
namespace Go.Proofs.Ytkfnnmdghibjbaa
open Go.RowKit Go.Bk Go.Bk.Liv Go.Bk.Num Go.Bk.Mem
set_option linter.unusedVariables false
set_option linter.unusedSimpArgs false

/-- an operator that has no case of its own -/
structure Off (op : Int) : Prop where
  o0 : (op == 256) = false
  o1 : (op == 272) = false
  o2 : (op == 273) = false
  o3 : (op == 274) = false
  o4 : (op == 275) = false
  o5 : (op == 276) = false
  o6 : (op == 277) = false
  o7 : (op == 258) = false
  o8 : (op == 27) = false
  o9 : (op == 16) = false
  o10 : (op == 35) = false
  o11 : (op == 36) = false
theorem Off.form {op : Int} (h : Off op) (e : EnvD) (s : SigD) (n : Nat) : formV e s op n = (if (grpOf op).isSome then if n = 0 then some (sigL op, [sigO op]) else none else memF e.mem op n) ∧ toLo op = 0 ∧ toHi op = 0 := by
  obtain ⟨h0, h1, h2, h3, h4, h5, h6, h7, h8, h9, h10, h11⟩ := h
  simp at h0 h1 h2 h3 h4 h5 h6 h7 h8 h9 h10 h11
  refine ⟨?_, ?_, ?_⟩
  · simp only [formV, h0, h1, h2, h3, h4, h5, h6, h7, h8, h9, h10, h11, if_false, or_self]
  · simp [toLo, h2, h3, h4]
  · simp [toHi, h2, h3, h4]
theorem off_split {Q : Int → Prop} (h0 : Q 256) (h1 : Q 272) (h2 : Q 273) (h3 : Q 274) (h4 : Q 275) (h5 : Q 276) (h6 : Q 277) (h7 : Q 258) (h8 : Q 27) (h9 : Q 16) (h10 : Q 35) (h11 : Q 36) (hn : ∀ op, Off op → Q op) (op : Int) : Q op := by
  by_cases g0 : op = 256
  · subst g0; exact h0
  by_cases g1 : op = 272
  · subst g1; exact h1
  by_cases g2 : op = 273
  · subst g2; exact h2
  by_cases g3 : op = 274
  · subst g3; exact h3
  by_cases g4 : op = 275
  · subst g4; exact h4
  by_cases g5 : op = 276
  · subst g5; exact h5
  by_cases g6 : op = 277
  · subst g6; exact h6
  by_cases g7 : op = 258
  · subst g7; exact h7
  by_cases g8 : op = 27
  · subst g8; exact h8
  by_cases g9 : op = 16
  · subst g9; exact h9
  by_cases g10 : op = 35
  · subst g10; exact h10
  by_cases g11 : op = 36
  · subst g11; exact h11
  exact hn op ⟨beq_false_of_ne g0, beq_false_of_ne g1, beq_false_of_ne g2, beq_false_of_ne g3, beq_false_of_ne g4, beq_false_of_ne g5, beq_false_of_ne g6, beq_false_of_ne g7, beq_false_of_ne g8, beq_false_of_ne g9, beq_false_of_ne g10, beq_false_of_ne g11⟩

theorem IR.own {w : World} {base : Nat} {t : TypeId} {A : Option Addr} {c : Nat} {l : List Int} (h : w.ownsRow base t 1 (.slice A l.length c) l.length (i64s l)) : IR w (.slice A l.length c) l := ⟨A, c, rfl, Bk.Src.of_own h⟩
theorem IR.five {w : World} {g base : Nat} {t : TypeId} {A : Option Addr} {c : Nat} {l : List Int} (h : w.ownsRow base t 1 (.slice A l.length c) l.length (i64s l)) (hg : g < base) (a b d e f : Value) :
    IR (((((w.setCell ⟨g, 0, none⟩ a).setCell ⟨g, 1, none⟩ b).setCell ⟨g, 2, none⟩ d).setCell ⟨g, 3, none⟩ e).setCell ⟨g, 4, none⟩ f) (.slice A l.length c) l := by
  have key : ∀ a, A = some a → a.block ≠ g := by
    intro a ha
    subst ha
    have := h.lt a.block (by rfl)
    omega
  refine ⟨A, c, rfl, ?_⟩
  exact (((((Bk.Src.of_own h).setCell (p := ⟨g, 0, none⟩) a key).setCell (p := ⟨g, 1, none⟩) b key).setCell (p := ⟨g, 2, none⟩) d key).setCell (p := ⟨g, 3, none⟩) e key).setCell (p := ⟨g, 4, none⟩) f key

theorem IR.fiveN {w : World} {g base : Nat} {v : Value} {l : List Int} (h : IR w v l) (hv : NewV base v) (hg : g < base) (a b d e f : Value) :
    IR (((((w.setCell ⟨g, 0, none⟩ a).setCell ⟨g, 1, none⟩ b).setCell ⟨g, 2, none⟩ d).setCell ⟨g, 3, none⟩ e).setCell ⟨g, 4, none⟩ f) v l := by
  have key : ∀ A n c, v = .slice A n c → ∀ a, A = some a → a.block ≠ g := by
    intro A n c e a ha
    have := hv A n c e a ha
    omega
  exact ((((h.setCell (p := ⟨g, 0, none⟩) a key).setCell (p := ⟨g, 1, none⟩) b key).setCell (p := ⟨g, 2, none⟩) d key).setCell (p := ⟨g, 3, none⟩) e key).setCell (p := ⟨g, 4, none⟩) f key
set_option maxRecDepth 100000 in
set_option maxHeartbeats 2000000 in
theorem shapeOf_off (op : Int) (hw1 : -9223372036854775808 ≤ op) (hw2 : op ≤ 9223372036854775807) (ho : Off op) (e : EnvD) (s : SigD) (ve vs : Value) (n : Nat) (hn : n < 18446744073709551616) (w : World) (he : EnvV w ve e) (hs : SigV w vs s) :
    Calls Try.prog 64 #[ve, vs, .int .i64 op, .int .u64 (n : Int)] w (ShP false (formV e s op n) n (toLo op) (toHi op) w) := by
  obtain ⟨hf, hlo, hhi⟩ := ho.form e s n
  rw [hlo, hhi]
  obtain ⟨a, b, d, rfl, h1, h2, h3⟩ := he
  obtain ⟨As, cs, rfl, _⟩ := h1.len
  obtain ⟨Ag, cg, rfl⟩ := h2.shape
  obtain ⟨Am, cm, rfl, _⟩ := h3
  obtain ⟨p, q, rfl, h4, h5⟩ := hs
  obtain ⟨Ap, cp, rfl⟩ := h4.shape
  obtain ⟨Aq, cq, rfl⟩ := h5.shape
  have HN := Lib.hid hn
  obtain ⟨g0, g1, g2, g3, g4, g5, g6, g7, g8, g9, g10, g11⟩ := ho
  have B4 := Lib.hid (al4 w (.cells #[.slice As e.sigs.length cs, .int .i64 e.imports, .slice Ag e.globals.length cg, .slice Am e.muts.length cm, .bool e.mem] 26) (.cells #[.slice Ap s.inn.length cp, .slice Aq s.out.length cq] 28) (.cells #[.slice none 0 0, .slice none 0 0, .int .u64 0, .int .i64 0, .int .i64 0] 95) (.cells #[.int .i64 127] 3))
  have E0 := Lib.hid ((((Blk.new w 26 #[.slice As e.sigs.length cs, .int .i64 e.imports, .slice Ag e.globals.length cg, .slice Am e.muts.length cm, .bool e.mem]).alloc (.cells #[.slice Ap s.inn.length cp, .slice Aq s.out.length cq] 28)).alloc (.cells #[.slice none 0 0, .slice none 0 0, .int .u64 0, .int .i64 0, .int .i64 0] 95)).alloc (.cells #[.int .i64 127] 3))
  have E2 := Lib.hid ((at3 w (.cells #[.slice As e.sigs.length cs, .int .i64 e.imports, .slice Ag e.globals.length cg, .slice Am e.muts.length cm, .bool e.mem] 26) (.cells #[.slice Ap s.inn.length cp, .slice Aq s.out.length cq] 28) 95 #[.slice none 0 0, .slice none 0 0, .int .u64 0, .int .i64 0, .int .i64 0]).alloc (.cells #[.int .i64 127] 3))
  have hs4 : w.heap.size + 1 + 1 + 1 + 1 = ((((w.alloc (.cells #[.slice As e.sigs.length cs, .int .i64 e.imports, .slice Ag e.globals.length cg, .slice Am e.muts.length cm, .bool e.mem] 26)).alloc (.cells #[.slice Ap s.inn.length cp, .slice Aq s.out.length cq] 28)).alloc (.cells #[.slice none 0 0, .slice none 0 0, .int .u64 0, .int .i64 0, .int .i64 0] 95)).alloc (.cells #[.int .i64 127] 3)).heap.size := by simp
  have HS4 := Lib.hid hs4
  clear h1 h2 h4 h5 hn hs4
  cases hg : grpOf op with
  | some gg =>
    have HI := Lib.hid (show (grpOf op).isSome = true by simp [hg])
    rw [hg] at hf
    have HF := Lib.hid (show formV e s op n = if n = 0 then some (sigL op, [sigO op]) else none from hf)
    clear hf hg
    go_enter Try.func64, Try.ntmps64
    go_wp2_with fail
    refine (Sig_any op _ hw1 hw2).mono ?_
    rintro en w1 ⟨A1, c1, rfl, hr1, hb1⟩
    rw [HI.out]
    have B1 := Lib.hid (B4.out.trans (hb1.mono B4.out.size))
    have F2 := Lib.hid (E2.out.below hb1 E2.out.lt)
    have HR := Lib.hid hr1
    have HS := Lib.hid (hb1.size)
    clear hb1 hr1
    obtain ⟨r0, r1, r2, r3, r4⟩ := blk5 F2.out
    have z0 := frz F2.out 0
    have z1 := frz F2.out 1
    have z2 := frz F2.out 2
    have z3 := frz F2.out 3
    have z4 := frz F2.out 4
    have hs2 := F2.out.lt
    go_wp2
    refine bodyPost_ret (v := .tuple #[.agg #[.slice A1 (sigL op).length c1, .slice (some ⟨w1.heap.size, 0, none⟩) 1 1, .int .u64 0, .int .i64 0, .int .i64 0], .bool true]) (by simp [results, Try.results64, go_sem, hs2, r0, r1, r2, r3, r4]) rfl ?_
    have hh := HR.out
    rw [← HS4.out] at hh
    refine ⟨_, _, 0, 0, 0, true, sigL op, [sigO op], rfl, ?_, ?_, by omega, ?_, ?_, (fun h => by cases h), ?_⟩
    · exact (IR.five (g := w.heap.size + 1 + 1) hh (by omega) _ _ _ _ _).alloc _
    · exact IR.one (x := sigO op) (Blk.newAt _ _ _ (by simp))
    · intro hf
      rw [HF.out] at hf
      exact .inr (by simp at hf; omega)
    · intro x hf
      rw [HF.out] at hf
      simp at hf
      exact ⟨rfl, by omega, hf.2.symm, rfl, rfl⟩
    · exact (below5 B1.out (by omega) _ _ _ _ _).alloc (by simp; exact B1.out.size) _
  | none =>
    have HI := Lib.hid (show (grpOf op).isSome = false by simp [hg])
    rw [hg] at hf
    have HF := Lib.hid (show formV e s op n = memF e.mem op n from hf)
    clear hf hg
    go_enter Try.func64, Try.ntmps64
    go_wp2_with fail
    refine (Sig_any op _ hw1 hw2).mono ?_
    rintro en w1 ⟨A1, c1, rfl, hr1, hb1⟩
    rw [HI.out]
    have B1 := Lib.hid (B4.out.trans (hb1.mono B4.out.size))
    have F2 := Lib.hid (E2.out.below hb1 E2.out.lt)
    have F0 := Lib.hid (E0.out.below hb1 E0.out.lt)
    have HZ := Lib.hid hb1.size
    clear hb1 hr1
    have e4 := F0.out.cell 4
    simp at e4
    go_wp2_with fail
    refine (memory_any op e.mem n HN.out _).mono ?_
    rintro en w2 ⟨vi, vo, most, a, b, ok, i, o, rfl, hvi, hvo, hmost, hP, hQ, hnw, hb2⟩
    obtain ⟨Ai, ci, rfl⟩ := hvi.shape
    obtain ⟨Ao, co, rfl⟩ := hvo.shape
    have B2 := Lib.hid (B1.out.trans (hb2.mono B1.out.size))
    have G2 := Lib.hid (F2.out.below hb2 F2.out.lt)
    have HVI := Lib.hid hvi
    have HVO := Lib.hid hvo
    have HP := Lib.hid hP
    have HQ := Lib.hid hQ
    have HM := Lib.hid hmost
    have HNW := Lib.hid (hnw rfl)
    clear hnw hb2 hvi hvo hP hQ hmost e4
    obtain ⟨r0, r1, r2, r3, r4⟩ := blk5 G2.out
    have z0 := frz G2.out 0
    have z1 := frz G2.out 1
    have z2 := frz G2.out 2
    have z3 := frz G2.out 3
    have z4 := frz G2.out 4
    have hs2 := G2.out.lt
    go_wp2
    refine bodyPost_ret (v := .tuple #[.agg #[.slice Ai i.length ci, .slice Ao o.length co, .int .u64 (most : Int), .int .i64 a, .int .i64 b], .bool ok]) (by simp [results, Try.results64, go_sem, hs2, r0, r1, r2, r3, r4]) rfl ?_
    have hz : w.heap.size + 1 + 1 + 1 + 1 ≤ w1.heap.size := by rw [HS4.out]; exact HZ.out
    refine ⟨_, _, most, a, b, ok, i, o, rfl, ?_, ?_, HM.out, ?_, ?_, (fun h => by cases h), ?_⟩
    · exact IR.fiveN HVI.out HNW.out.1 (by omega) _ _ _ _ _
    · exact IR.fiveN HVO.out HNW.out.2 (by omega) _ _ _ _ _
    · rw [HF.out]; exact HP.out
    · rw [HF.out]; exact HQ.out
    · exact below5 B2.out (by omega) _ _ _ _ _

/-- shapeOf, of any operator -/
theorem shapeOf_any (op : Int) (hw1 : -9223372036854775808 ≤ op) (hw2 : op ≤ 9223372036854775807) (e : EnvD) (s : SigD) (ve vs : Value) (n : Nat) (hn : n < 18446744073709551616) (w : World) (he : EnvV w ve e) (hs : SigV w vs s) (hmg : e.muts.length = e.globals.length) :
    Calls Try.prog 64 #[ve, vs, .int .i64 op, .int .u64 (n : Int)] w (ShP false (formV e s op n) n (toLo op) (toHi op) w) := by
  revert hw1 hw2
  revert op
  refine off_split (fun _ _ => shapeOf_256 e s ve vs n hn w he hs) (fun _ _ => shapeOf_272 e s ve vs n hn w he hs) (fun _ _ => shapeOf_273 e s ve vs n hn w he hs) (fun _ _ => shapeOf_274 e s ve vs n hn w he hs) (fun _ _ => shapeOf_275 e s ve vs n hn w he hs) (fun _ _ => shapeOf_276 e s ve vs n hn w he hs) (fun _ _ => shapeOf_277 e s ve vs n hn w he hs) (fun _ _ => shapeOf_258 e s ve vs n hn w he hs) (fun _ _ => shapeOf_27 e s ve vs n hn w he hs) (fun _ _ => shapeOf_16 e s ve vs n hn w he hs) (fun _ _ => shapeOf_35 e s ve vs n hn w he hs) (fun _ _ => shapeOf_36 e s ve vs n hn w he hs hmg) (fun op ho h1 h2 => shapeOf_off op h1 h2 ho e s ve vs n hn w he hs)
end Go.Proofs.Ytkfnnmdghibjbaa
