/-
  What an instruction takes and answers: lower.shapeOf.
  Conditions: as each says.
-/
import Derived.Test.YtkfnnmdghibjbaaLivShape
namespace Go.Proofs.Ytkfnnmdghibjbaa
open Go.RowKit Go.Bk Go.Bk.Liv Go.Bk.Num Go.Bk.Mem
set_option linter.unusedVariables false
set_option linter.unusedSimpArgs false

theorem al4 (w : World) (a b c d : Obj) : Below w.heap.size w ((((w.alloc a).alloc b).alloc c).alloc d) := ((((Below.refl _ _).alloc (Nat.le_refl _) _).alloc (by simp) _).alloc (by simp; omega) _).alloc (by simp; omega) _
theorem al5 (w : World) (a b c d e : Obj) : Below w.heap.size w (((((w.alloc a).alloc b).alloc c).alloc d).alloc e) := (al4 w a b c d).alloc (by simp; omega) _
theorem al6 (w : World) (a b c d e f : Obj) : Below w.heap.size w ((((((w.alloc a).alloc b).alloc c).alloc d).alloc e).alloc f) := (al5 w a b c d e).alloc (by simp; omega) _
theorem at3 (w : World) (a b : Obj) (t : TypeId) (cs : Array Value) : Blk (((w.alloc a).alloc b).alloc (.cells cs t)) (w.heap.size + 1 + 1) t cs := Blk.newAt _ _ _ (by simp)
theorem at4 (w : World) (a b c : Obj) (t : TypeId) (cs : Array Value) : Blk ((((w.alloc a).alloc b).alloc c).alloc (.cells cs t)) (w.heap.size + 1 + 1 + 1) t cs := Blk.newAt _ _ _ (by simp)
theorem at5 (w : World) (a b c d : Obj) (t : TypeId) (cs : Array Value) : Blk (((((w.alloc a).alloc b).alloc c).alloc d).alloc (.cells cs t)) (w.heap.size + 1 + 1 + 1 + 1) t cs := Blk.newAt _ _ _ (by simp)
theorem at6 (w : World) (a b c d e : Obj) (t : TypeId) (cs : Array Value) : Blk ((((((w.alloc a).alloc b).alloc c).alloc d).alloc e).alloc (.cells cs t)) (w.heap.size + 1 + 1 + 1 + 1 + 1) t cs := Blk.newAt _ _ _ (by simp)

set_option maxRecDepth 100000 in
set_option maxHeartbeats 1000000 in
theorem shapeOf_256 (e : EnvD) (s : SigD) (ve vs : Value) (n : Nat) (hn : n < 18446744073709551616) (w : World) (he : EnvV w ve e) (hs : SigV w vs s) : Calls Try.prog 64 #[ve, vs, .int .i64 256, .int .u64 (n : Int)] w (ShP false (formV e s 256 n) n (toLo 256) (toHi 256) w) := by
  obtain ⟨a, b, d, rfl, h1, h2, h3⟩ := he
  obtain ⟨As, cs, rfl, _⟩ := h1.len
  obtain ⟨Ag, cg, rfl⟩ := h2.shape
  have hm := h3
  obtain ⟨Am, cm, rfl, _⟩ := h3
  obtain ⟨p, q, rfl, h4, h5⟩ := hs
  obtain ⟨Ap, cp, rfl⟩ := h4.shape
  obtain ⟨Aq, cq, rfl⟩ := h5.shape
  have HO := Lib.hid h5.ir
  have HF := Lib.hid (show formV e s 256 n = some ([], [0]) by simp [formV])
  have HN := Lib.hid hn
  clear h1 h2 h4 h5 hn hm
  go_enter Try.func64, Try.ntmps64
  go_wp2
  refine bodyPost_ret (v := .tuple #[.agg #[.slice none 0 0, .slice (some ⟨w.heap.size + 1 + 1 + 1 + 1, 0, none⟩) 1 1, .int .u64 18446744073709551615, .int .i64 0, .int .i64 0], .bool true]) (by simp [results, Try.results64, go_sem]) rfl ?_
  have := HN.out
  refine ⟨_, _, 18446744073709551615, 0, 0, true, [], [0], rfl, ?_, ?_, by omega, ?_, ?_, (fun h => by cases h), ?_⟩
  · exact IR.nil _
  · exact IR.one (x := 0) (at5 _ _ _ _ _ _ _)
  · intro hf
    rw [HF.out] at hf
    cases hf
  · intro x hf
    rw [HF.out] at hf
    simp at hf
    exact ⟨rfl, by omega, hf.symm, by decide, by decide⟩
  · exact al5 _ _ _ _ _ _ 

set_option maxRecDepth 100000 in
set_option maxHeartbeats 1000000 in
theorem shapeOf_272 (e : EnvD) (s : SigD) (ve vs : Value) (n : Nat) (hn : n < 18446744073709551616) (w : World) (he : EnvV w ve e) (hs : SigV w vs s) : Calls Try.prog 64 #[ve, vs, .int .i64 272, .int .u64 (n : Int)] w (ShP false (formV e s 272 n) n (toLo 272) (toHi 272) w) := by
  obtain ⟨a, b, d, rfl, h1, h2, h3⟩ := he
  obtain ⟨As, cs, rfl, _⟩ := h1.len
  obtain ⟨Ag, cg, rfl⟩ := h2.shape
  have hm := h3
  obtain ⟨Am, cm, rfl, _⟩ := h3
  obtain ⟨p, q, rfl, h4, h5⟩ := hs
  obtain ⟨Ap, cp, rfl⟩ := h4.shape
  obtain ⟨Aq, cq, rfl⟩ := h5.shape
  have HO := Lib.hid h5.ir
  have HF := Lib.hid (show formV e s 272 n = if n = 0 then some ([0], [0]) else none by simp [formV])
  have HN := Lib.hid hn
  clear h1 h2 h4 h5 hn hm
  go_enter Try.func64, Try.ntmps64
  go_wp2
  refine bodyPost_ret (v := .tuple #[.agg #[.slice (some ⟨w.heap.size + 1 + 1 + 1 + 1, 0, none⟩) 1 1, .slice (some ⟨w.heap.size + 1 + 1 + 1 + 1 + 1, 0, none⟩) 1 1, .int .u64 0, .int .i64 0, .int .i64 0], .bool true]) (by simp [results, Try.results64, go_sem]) rfl ?_
  have := HN.out
  refine ⟨_, _, 0, 0, 0, true, [0], [0], rfl, ?_, ?_, by omega, ?_, ?_, (fun h => by cases h), ?_⟩
  · exact IR.one (x := 0) ((at5 _ _ _ _ _ _ _).alloc _)
  · exact IR.one (x := 0) (at6 _ _ _ _ _ _ _ _)
  · intro hf
    rw [HF.out] at hf
    exact .inr (by simp at hf; omega)
  · intro x hf
    rw [HF.out] at hf
    simp at hf
    exact ⟨rfl, by omega, hf.2.symm, by decide, by decide⟩
  · exact al6 _ _ _ _ _ _ _ 

set_option maxRecDepth 100000 in
set_option maxHeartbeats 1000000 in
theorem shapeOf_273 (e : EnvD) (s : SigD) (ve vs : Value) (n : Nat) (hn : n < 18446744073709551616) (w : World) (he : EnvV w ve e) (hs : SigV w vs s) : Calls Try.prog 64 #[ve, vs, .int .i64 273, .int .u64 (n : Int)] w (ShP false (formV e s 273 n) n (toLo 273) (toHi 273) w) := by
  obtain ⟨a, b, d, rfl, h1, h2, h3⟩ := he
  obtain ⟨As, cs, rfl, _⟩ := h1.len
  obtain ⟨Ag, cg, rfl⟩ := h2.shape
  have hm := h3
  obtain ⟨Am, cm, rfl, _⟩ := h3
  obtain ⟨p, q, rfl, h4, h5⟩ := hs
  obtain ⟨Ap, cp, rfl⟩ := h4.shape
  obtain ⟨Aq, cq, rfl⟩ := h5.shape
  have HO := Lib.hid h5.ir
  have HF := Lib.hid (show formV e s 273 n = if n = 0 then some ([], []) else none by simp [formV])
  have HN := Lib.hid hn
  clear h1 h2 h4 h5 hn hm
  go_enter Try.func64, Try.ntmps64
  go_wp2
  refine bodyPost_ret (v := .tuple #[.agg #[.slice none 0 0, .slice none 0 0, .int .u64 0, .int .i64 1, .int .i64 1], .bool true]) (by simp [results, Try.results64, go_sem]) rfl ?_
  have := HN.out
  refine ⟨_, _, 0, 1, 1, true, [], [], rfl, ?_, ?_, by omega, ?_, ?_, (fun h => by cases h), ?_⟩
  · exact IR.nil _
  · exact IR.nil _
  · intro hf
    rw [HF.out] at hf
    exact .inr (by simp at hf; omega)
  · intro x hf
    rw [HF.out] at hf
    simp at hf
    exact ⟨rfl, by omega, hf.2.symm, by decide, by decide⟩
  · exact al4 _ _ _ _ _ 

set_option maxRecDepth 100000 in
set_option maxHeartbeats 1000000 in
theorem shapeOf_274 (e : EnvD) (s : SigD) (ve vs : Value) (n : Nat) (hn : n < 18446744073709551616) (w : World) (he : EnvV w ve e) (hs : SigV w vs s) : Calls Try.prog 64 #[ve, vs, .int .i64 274, .int .u64 (n : Int)] w (ShP false (formV e s 274 n) n (toLo 274) (toHi 274) w) := by
  obtain ⟨a, b, d, rfl, h1, h2, h3⟩ := he
  obtain ⟨As, cs, rfl, _⟩ := h1.len
  obtain ⟨Ag, cg, rfl⟩ := h2.shape
  have hm := h3
  obtain ⟨Am, cm, rfl, _⟩ := h3
  obtain ⟨p, q, rfl, h4, h5⟩ := hs
  obtain ⟨Ap, cp, rfl⟩ := h4.shape
  obtain ⟨Aq, cq, rfl⟩ := h5.shape
  have HO := Lib.hid h5.ir
  have HF := Lib.hid (show formV e s 274 n = if n = 0 then some ([127], []) else none by simp [formV])
  have HN := Lib.hid hn
  clear h1 h2 h4 h5 hn hm
  go_enter Try.func64, Try.ntmps64
  go_wp2
  refine bodyPost_ret (v := .tuple #[.agg #[.slice (some ⟨w.heap.size + 1 + 1 + 1, 0, none⟩) 1 1, .slice none 0 0, .int .u64 0, .int .i64 1, .int .i64 1], .bool true]) (by simp [results, Try.results64, go_sem]) rfl ?_
  have := HN.out
  refine ⟨_, _, 0, 1, 1, true, [127], [], rfl, ?_, ?_, by omega, ?_, ?_, (fun h => by cases h), ?_⟩
  · exact IR.one (x := 127) (at4 _ _ _ _ _ _)
  · exact IR.nil _
  · intro hf
    rw [HF.out] at hf
    exact .inr (by simp at hf; omega)
  · intro x hf
    rw [HF.out] at hf
    simp at hf
    exact ⟨rfl, by omega, hf.2.symm, by decide, by decide⟩
  · exact al4 _ _ _ _ _ 

set_option maxRecDepth 100000 in
set_option maxHeartbeats 1000000 in
theorem shapeOf_275 (e : EnvD) (s : SigD) (ve vs : Value) (n : Nat) (hn : n < 18446744073709551616) (w : World) (he : EnvV w ve e) (hs : SigV w vs s) : Calls Try.prog 64 #[ve, vs, .int .i64 275, .int .u64 (n : Int)] w (ShP false (formV e s 275 n) n (toLo 275) (toHi 275) w) := by
  obtain ⟨a, b, d, rfl, h1, h2, h3⟩ := he
  obtain ⟨As, cs, rfl, _⟩ := h1.len
  obtain ⟨Ag, cg, rfl⟩ := h2.shape
  have hm := h3
  obtain ⟨Am, cm, rfl, _⟩ := h3
  obtain ⟨p, q, rfl, h4, h5⟩ := hs
  obtain ⟨Ap, cp, rfl⟩ := h4.shape
  obtain ⟨Aq, cq, rfl⟩ := h5.shape
  have HO := Lib.hid h5.ir
  have HF := Lib.hid (show formV e s 275 n = if n = 0 then some ([127], []) else none by simp [formV])
  have HN := Lib.hid hn
  clear h1 h2 h4 h5 hn hm
  go_enter Try.func64, Try.ntmps64
  go_wp2
  refine bodyPost_ret (v := .tuple #[.agg #[.slice (some ⟨w.heap.size + 1 + 1 + 1, 0, none⟩) 1 1, .slice none 0 0, .int .u64 0, .int .i64 1, .int .i64 65], .bool true]) (by simp [results, Try.results64, go_sem]) rfl ?_
  have := HN.out
  refine ⟨_, _, 0, 1, 65, true, [127], [], rfl, ?_, ?_, by omega, ?_, ?_, (fun h => by cases h), ?_⟩
  · exact IR.one (x := 127) (at4 _ _ _ _ _ _)
  · exact IR.nil _
  · intro hf
    rw [HF.out] at hf
    exact .inr (by simp at hf; omega)
  · intro x hf
    rw [HF.out] at hf
    simp at hf
    exact ⟨rfl, by omega, hf.2.symm, by decide, by decide⟩
  · exact al4 _ _ _ _ _ 

set_option maxRecDepth 100000 in
set_option maxHeartbeats 1000000 in
theorem shapeOf_276 (e : EnvD) (s : SigD) (ve vs : Value) (n : Nat) (hn : n < 18446744073709551616) (w : World) (he : EnvV w ve e) (hs : SigV w vs s) : Calls Try.prog 64 #[ve, vs, .int .i64 276, .int .u64 (n : Int)] w (ShP false (formV e s 276 n) n (toLo 276) (toHi 276) w) := by
  obtain ⟨a, b, d, rfl, h1, h2, h3⟩ := he
  obtain ⟨As, cs, rfl, _⟩ := h1.len
  obtain ⟨Ag, cg, rfl⟩ := h2.shape
  have hm := h3
  obtain ⟨Am, cm, rfl, _⟩ := h3
  obtain ⟨p, q, rfl, h4, h5⟩ := hs
  obtain ⟨Ap, cp, rfl⟩ := h4.shape
  obtain ⟨Aq, cq, rfl⟩ := h5.shape
  have HO := Lib.hid h5.ir
  have HF := Lib.hid (show formV e s 276 n = if n = 0 then some (s.out, []) else none by simp [formV])
  have HN := Lib.hid hn
  clear h1 h2 h4 h5 hn hm
  go_enter Try.func64, Try.ntmps64
  go_wp2
  refine bodyPost_ret (v := .tuple #[.agg #[.slice Aq s.out.length cq, .slice none 0 0, .int .u64 0, .int .i64 0, .int .i64 0], .bool true]) (by simp [results, Try.results64, go_sem]) rfl ?_
  have := HN.out
  refine ⟨_, _, 0, 0, 0, true, s.out, [], rfl, ?_, ?_, by omega, ?_, ?_, (fun h => by cases h), ?_⟩
  · exact HO.out.below (al4 _ _ _ _ _) (Nat.le_refl _)
  · exact IR.nil _
  · intro hf
    rw [HF.out] at hf
    exact .inr (by simp at hf; omega)
  · intro x hf
    rw [HF.out] at hf
    simp at hf
    exact ⟨rfl, by omega, hf.2.symm, by decide, by decide⟩
  · exact al4 _ _ _ _ _ 

set_option maxRecDepth 100000 in
set_option maxHeartbeats 1000000 in
theorem shapeOf_277 (e : EnvD) (s : SigD) (ve vs : Value) (n : Nat) (hn : n < 18446744073709551616) (w : World) (he : EnvV w ve e) (hs : SigV w vs s) : Calls Try.prog 64 #[ve, vs, .int .i64 277, .int .u64 (n : Int)] w (ShP false (formV e s 277 n) n (toLo 277) (toHi 277) w) := by
  obtain ⟨a, b, d, rfl, h1, h2, h3⟩ := he
  obtain ⟨As, cs, rfl, _⟩ := h1.len
  obtain ⟨Ag, cg, rfl⟩ := h2.shape
  have hm := h3
  obtain ⟨Am, cm, rfl, _⟩ := h3
  obtain ⟨p, q, rfl, h4, h5⟩ := hs
  obtain ⟨Ap, cp, rfl⟩ := h4.shape
  obtain ⟨Aq, cq, rfl⟩ := h5.shape
  have HO := Lib.hid h5.ir
  have HF := Lib.hid (show formV e s 277 n = if n = 0 then some ([], []) else none by simp [formV])
  have HN := Lib.hid hn
  clear h1 h2 h4 h5 hn hm
  go_enter Try.func64, Try.ntmps64
  go_wp2
  refine bodyPost_ret (v := .tuple #[.agg #[.slice none 0 0, .slice none 0 0, .int .u64 0, .int .i64 0, .int .i64 0], .bool true]) (by simp [results, Try.results64, go_sem]) rfl ?_
  have := HN.out
  refine ⟨_, _, 0, 0, 0, true, [], [], rfl, ?_, ?_, by omega, ?_, ?_, (fun h => by cases h), ?_⟩
  · exact IR.nil _
  · exact IR.nil _
  · intro hf
    rw [HF.out] at hf
    exact .inr (by simp at hf; omega)
  · intro x hf
    rw [HF.out] at hf
    simp at hf
    exact ⟨rfl, by omega, hf.2.symm, by decide, by decide⟩
  · exact al4 _ _ _ _ _ 

set_option maxRecDepth 100000 in
set_option maxHeartbeats 1000000 in
theorem shapeOf_258 (e : EnvD) (s : SigD) (ve vs : Value) (n : Nat) (hn : n < 18446744073709551616) (w : World) (he : EnvV w ve e) (hs : SigV w vs s) : Calls Try.prog 64 #[ve, vs, .int .i64 258, .int .u64 (n : Int)] w (ShP false (formV e s 258 n) n (toLo 258) (toHi 258) w) := by
  obtain ⟨a, b, d, rfl, h1, h2, h3⟩ := he
  obtain ⟨As, cs, rfl, _⟩ := h1.len
  obtain ⟨Ag, cg, rfl⟩ := h2.shape
  have hm := h3
  obtain ⟨Am, cm, rfl, _⟩ := h3
  obtain ⟨p, q, rfl, h4, h5⟩ := hs
  obtain ⟨Ap, cp, rfl⟩ := h4.shape
  obtain ⟨Aq, cq, rfl⟩ := h5.shape
  have HO := Lib.hid h5.ir
  have HF := Lib.hid (show formV e s 258 n = if n = 0 then some ([], []) else none by simp [formV])
  have HN := Lib.hid hn
  clear h1 h2 h4 h5 hn hm
  go_enter Try.func64, Try.ntmps64
  go_wp2
  refine bodyPost_ret (v := .tuple #[.agg #[.slice none 0 0, .slice none 0 0, .int .u64 0, .int .i64 0, .int .i64 0], .bool true]) (by simp [results, Try.results64, go_sem]) rfl ?_
  have := HN.out
  refine ⟨_, _, 0, 0, 0, true, [], [], rfl, ?_, ?_, by omega, ?_, ?_, (fun h => by cases h), ?_⟩
  · exact IR.nil _
  · exact IR.nil _
  · intro hf
    rw [HF.out] at hf
    exact .inr (by simp at hf; omega)
  · intro x hf
    rw [HF.out] at hf
    simp at hf
    exact ⟨rfl, by omega, hf.2.symm, by decide, by decide⟩
  · exact al4 _ _ _ _ _ 

set_option maxRecDepth 100000 in
set_option maxHeartbeats 1000000 in
theorem shapeOf_27 (e : EnvD) (s : SigD) (ve vs : Value) (n : Nat) (hn : n < 18446744073709551616) (w : World) (he : EnvV w ve e) (hs : SigV w vs s) : Calls Try.prog 64 #[ve, vs, .int .i64 27, .int .u64 (n : Int)] w (ShP false (formV e s 27 n) n (toLo 27) (toHi 27) w) := by
  obtain ⟨a, b, d, rfl, h1, h2, h3⟩ := he
  obtain ⟨As, cs, rfl, _⟩ := h1.len
  obtain ⟨Ag, cg, rfl⟩ := h2.shape
  have hm := h3
  obtain ⟨Am, cm, rfl, _⟩ := h3
  obtain ⟨p, q, rfl, h4, h5⟩ := hs
  obtain ⟨Ap, cp, rfl⟩ := h4.shape
  obtain ⟨Aq, cq, rfl⟩ := h5.shape
  have HO := Lib.hid h5.ir
  have HF := Lib.hid (show formV e s 27 n = if n = 0 then some ([0, 0, 127], [0]) else none by simp [formV])
  have HN := Lib.hid hn
  clear h1 h2 h4 h5 hn hm
  go_enter Try.func64, Try.ntmps64
  go_wp2
  refine bodyPost_ret (v := .tuple #[.agg #[.slice (some ⟨w.heap.size + 1 + 1 + 1 + 1, 0, none⟩) 3 3, .slice (some ⟨w.heap.size + 1 + 1 + 1 + 1 + 1, 0, none⟩) 1 1, .int .u64 0, .int .i64 0, .int .i64 0], .bool true]) (by simp [results, Try.results64, go_sem]) rfl ?_
  have := HN.out
  refine ⟨_, _, 0, 0, 0, true, [0, 0, 127], [0], rfl, ?_, ?_, by omega, ?_, ?_, (fun h => by cases h), ?_⟩
  · exact IR.three (x := 0) (y := 0) (z := 127) ((at5 _ _ _ _ _ _ _).alloc _)
  · exact IR.one (x := 0) (at6 _ _ _ _ _ _ _ _)
  · intro hf
    rw [HF.out] at hf
    exact .inr (by simp at hf; omega)
  · intro x hf
    rw [HF.out] at hf
    simp at hf
    exact ⟨rfl, by omega, hf.2.symm, by decide, by decide⟩
  · exact al6 _ _ _ _ _ _ _ 

set_option maxRecDepth 100000 in
set_option maxHeartbeats 1000000 in
theorem shapeOf_16 (e : EnvD) (s : SigD) (ve vs : Value) (n : Nat) (hn : n < 18446744073709551616) (w : World) (he : EnvV w ve e) (hs : SigV w vs s) : Calls Try.prog 64 #[ve, vs, .int .i64 16, .int .u64 (n : Int)] w (ShP false (formV e s 16 n) n (toLo 16) (toHi 16) w) := by
  obtain ⟨a, b, d, rfl, h1, h2, h3⟩ := he
  obtain ⟨As, cs, rfl, _⟩ := h1.len
  obtain ⟨Ag, cg, rfl⟩ := h2.shape
  have hm := h3
  obtain ⟨Am, cm, rfl, _⟩ := h3
  obtain ⟨p, q, rfl, h4, h5⟩ := hs
  obtain ⟨Ap, cp, rfl⟩ := h4.shape
  obtain ⟨Aq, cq, rfl⟩ := h5.shape
  have HO := Lib.hid h5.ir
  have hl := h1.lenV
  by_cases hlt : n < e.sigs.length
  · obtain ⟨x, hx⟩ : ∃ x, e.sigs[n]? = some x := ⟨_, List.getElem?_eq_getElem hlt⟩
    have hlt' : decide ((n : Int) < (e.sigs.length : Int)) = true := by simp; omega
    have hlt2 : (n : Int) < (e.sigs.length : Int) := by omega
    obtain ⟨gb, go, p, q, rfl, hgb, c0, c1, s0, s1⟩ := h1.sig hx
    obtain ⟨pA, pc, rfl⟩ := s0.shape
    obtain ⟨qA, qc, rfl⟩ := s1.shape
    have HF := Lib.hid (show formV e s 16 n = some (x.inn, x.out) by simp [formV, hx])
    have HN := Lib.hid hn
    have HI := Lib.hid s0.ir
    have HQ := Lib.hid s1.ir
    clear h1 h2 h4 h5 hn hm hx s0 s1
    go_enter Try.func64, Try.ntmps64
    have B4 := Lib.hid (al4 w (.cells #[.slice (some ⟨gb, go, none⟩) e.sigs.length cs, .int .i64 e.imports, .slice Ag e.globals.length cg, .slice Am e.muts.length cm, .bool e.mem] 26) (.cells #[.slice Ap s.inn.length cp, .slice Aq s.out.length cq] 28) (.cells #[.slice none 0 0, .slice none 0 0, .int .u64 0, .int .i64 0, .int .i64 0] 95) (.cells #[.int .i64 127] 3))
    have E0 := Lib.hid ((((Blk.new w 26 #[.slice (some ⟨gb, go, none⟩) e.sigs.length cs, .int .i64 e.imports, .slice Ag e.globals.length cg, .slice Am e.muts.length cm, .bool e.mem]).alloc (.cells #[.slice Ap s.inn.length cp, .slice Aq s.out.length cq] 28)).alloc (.cells #[.slice none 0 0, .slice none 0 0, .int .u64 0, .int .i64 0, .int .i64 0] 95)).alloc (.cells #[.int .i64 127] 3))
    have E2 := Lib.hid ((at3 w (.cells #[.slice (some ⟨gb, go, none⟩) e.sigs.length cs, .int .i64 e.imports, .slice Ag e.globals.length cg, .slice Am e.muts.length cm, .bool e.mem] 26) (.cells #[.slice Ap s.inn.length cp, .slice Aq s.out.length cq] 28) 95 #[.slice none 0 0, .slice none 0 0, .int .u64 0, .int .i64 0, .int .i64 0]).alloc (.cells #[.int .i64 127] 3))
    go_wp2_with fail
    generalize ((((w.alloc (.cells #[.slice (some ⟨gb, go, none⟩) e.sigs.length cs, .int .i64 e.imports, .slice Ag e.globals.length cg, .slice Am e.muts.length cm, .bool e.mem] 26)).alloc (.cells #[.slice Ap s.inn.length cp, .slice Aq s.out.length cq] 28)).alloc (.cells #[.slice none 0 0, .slice none 0 0, .int .u64 0, .int .i64 0, .int .i64 0] 95)).alloc (.cells #[.int .i64 127] 3)) = W4 at B4 E0 E2 ⊢
    have d0 := (B4.out.cell (p := ⟨gb, go + n * 2, none⟩) hgb).trans c0
    have d1 := (B4.out.cell (p := ⟨gb, go + n * 2 + 1, none⟩) hgb).trans c1
    have e0 := E0.out.cell 0
    simp at e0
    obtain ⟨r0, r1, r2, r3, r4⟩ := blk5 E2.out
    have z0 := frz E2.out 0
    have z1 := frz E2.out 1
    have z2 := frz E2.out 2
    have z3 := frz E2.out 3
    have z4 := frz E2.out 4
    have hs2 := E2.out.lt
    go_region
    go_wp2
    refine bodyPost_ret (v := .tuple #[.agg #[.slice pA x.inn.length pc, .slice qA x.out.length qc, .int .u64 (n : Int), .int .i64 0, .int .i64 0], .bool true]) (by simp [results, Try.results64, go_sem, hs2, r0, r1, r2, r3, r4]) rfl ?_
    have := HN.out
    have hb := (below5 B4.out (g := w.heap.size + 1 + 1) (by omega) (.slice pA x.inn.length pc) (.slice qA x.out.length qc) (.int .u64 (n : Int)) (.int .i64 0) (.int .i64 0)).drew
    refine ⟨_, _, n, 0, 0, true, _, _, rfl, HI.out.below hb (Nat.le_refl _), HQ.out.below hb (Nat.le_refl _), this, ?_, ?_, (fun h => by cases h), hb⟩
    · intro hf
      rw [HF.out] at hf
      cases hf
    · intro x hf
      rw [HF.out] at hf
      simp at hf
      exact ⟨rfl, Nat.le_refl _, hf.symm, by decide, by decide⟩
  · have hlt' : decide ((n : Int) < (e.sigs.length : Int)) = false := by simp; omega
    have HF := Lib.hid (show formV e s 16 n = none by simp [formV]; omega)
    clear h1 h2 h4 h5 hn hm
    go_enter Try.func64, Try.ntmps64
    go_wp2
    refine bodyPost_ret (v := .tuple #[.agg #[.slice none 0 0, .slice none 0 0, .int .u64 0, .int .i64 0, .int .i64 0], .bool false]) (by simp [results, Try.results64, go_sem]) rfl ?_
    exact ShP.no HF.out (al4 _ _ _ _ _)

set_option maxRecDepth 100000 in
set_option maxHeartbeats 1000000 in
theorem shapeOf_35 (e : EnvD) (s : SigD) (ve vs : Value) (n : Nat) (hn : n < 18446744073709551616) (w : World) (he : EnvV w ve e) (hs : SigV w vs s) : Calls Try.prog 64 #[ve, vs, .int .i64 35, .int .u64 (n : Int)] w (ShP false (formV e s 35 n) n (toLo 35) (toHi 35) w) := by
  obtain ⟨a, b, d, rfl, h1, h2, h3⟩ := he
  obtain ⟨As, cs, rfl, _⟩ := h1.len
  obtain ⟨Ag, cg, rfl⟩ := h2.shape
  have hm := h3
  obtain ⟨Am, cm, rfl, _⟩ := h3
  obtain ⟨p, q, rfl, h4, h5⟩ := hs
  obtain ⟨Ap, cp, rfl⟩ := h4.shape
  obtain ⟨Aq, cq, rfl⟩ := h5.shape
  have HO := Lib.hid h5.ir
  have hl := h2.lenV
  by_cases hlt : n < e.globals.length
  · obtain ⟨x, hx⟩ : ∃ x, e.globals[n]? = some x := ⟨_, List.getElem?_eq_getElem hlt⟩
    have hlt' : decide ((e.globals.length : Int) ≤ (n : Int)) = false := by simp; omega
    have hge : ¬ e.globals.length ≤ n := by omega
    have hlt2 : (n : Int) < (e.globals.length : Int) := by omega
    obtain ⟨gb, go, rfl, hgb, c0⟩ := h2.ir.cell hx
    have hgb1 : gb < w.heap.size + 1 := by omega
    have hgb2 : gb < w.heap.size + 1 + 1 := by omega
    have hgb3 : gb < w.heap.size + 1 + 1 + 1 := by omega
    have hgb4 : gb < w.heap.size + 1 + 1 + 1 + 1 := by omega
    have HF := Lib.hid (show formV e s 35 n = some ([], [x]) by simp [formV, hx])
    have HN := Lib.hid hn
    clear h1 h2 h4 h5 hn hm hx
    go_enter Try.func64, Try.ntmps64
    go_wp2
    refine bodyPost_ret (v := .tuple #[.agg #[.slice none 0 0, .slice (some ⟨w.heap.size + 1 + 1 + 1 + 1, 0, none⟩) 1 1, .int .u64 (n : Int), .int .i64 0, .int .i64 0], .bool true]) (by simp [results, Try.results64, go_sem]) rfl ?_
    have := HN.out
    refine ⟨_, _, n, 0, 0, true, [], [x], rfl, IR.nil _, IR.one (at5 _ _ _ _ _ _ _), this, ?_, ?_, (fun h => by cases h), al5 _ _ _ _ _ _⟩
    · intro hf
      rw [HF.out] at hf
      cases hf
    · intro x hf
      rw [HF.out] at hf
      simp at hf
      exact ⟨rfl, Nat.le_refl _, hf.symm, by decide, by decide⟩
  · have hlt' : decide ((e.globals.length : Int) ≤ (n : Int)) = true := by simp; omega
    have hge : e.globals.length ≤ n := by omega
    have HF := Lib.hid (show formV e s 35 n = none by simp [formV, hge])
    clear h1 h2 h4 h5 hn hm
    go_enter Try.func64, Try.ntmps64
    go_wp2
    refine bodyPost_ret (v := .tuple #[.agg #[.slice none 0 0, .slice none 0 0, .int .u64 0, .int .i64 0, .int .i64 0], .bool false]) (by simp [results, Try.results64, go_sem]) rfl ?_
    exact ShP.no HF.out (al4 _ _ _ _ _)

set_option maxRecDepth 100000 in
set_option maxHeartbeats 1000000 in
theorem shapeOf_36 (e : EnvD) (s : SigD) (ve vs : Value) (n : Nat) (hn : n < 18446744073709551616) (w : World) (he : EnvV w ve e) (hs : SigV w vs s) (hmg : e.muts.length = e.globals.length) : Calls Try.prog 64 #[ve, vs, .int .i64 36, .int .u64 (n : Int)] w (ShP false (formV e s 36 n) n (toLo 36) (toHi 36) w) := by
  obtain ⟨a, b, d, rfl, h1, h2, h3⟩ := he
  obtain ⟨As, cs, rfl, _⟩ := h1.len
  obtain ⟨Ag, cg, rfl⟩ := h2.shape
  have hm := h3
  obtain ⟨Am, cm, rfl, _⟩ := h3
  obtain ⟨p, q, rfl, h4, h5⟩ := hs
  obtain ⟨Ap, cp, rfl⟩ := h4.shape
  obtain ⟨Aq, cq, rfl⟩ := h5.shape
  have HO := Lib.hid h5.ir
  have hl := h2.lenV
  by_cases hlt : n < e.globals.length
  · obtain ⟨x, hx⟩ : ∃ x, e.globals[n]? = some x := ⟨_, List.getElem?_eq_getElem hlt⟩
    have hlt' : decide ((e.globals.length : Int) ≤ (n : Int)) = false := by simp; omega
    have hge : ¬ e.globals.length ≤ n := by omega
    have hlt2 : (n : Int) < (e.globals.length : Int) := by omega
    obtain ⟨gb, go, rfl, hgb, c0⟩ := h2.ir.cell hx
    have hgb1 : gb < w.heap.size + 1 := by omega
    have hgb2 : gb < w.heap.size + 1 + 1 := by omega
    have hgb3 : gb < w.heap.size + 1 + 1 + 1 := by omega
    have hgb4 : gb < w.heap.size + 1 + 1 + 1 + 1 := by omega
    obtain ⟨y, hy⟩ : ∃ y, e.muts[n]? = some y := ⟨_, List.getElem?_eq_getElem (by omega)⟩
    obtain ⟨Am', cm', e', hms, _⟩ := hm
    injection e' with e1 e2 e3
    subst e1
    subst e3
    have hnm : n < e.muts.length := by omega
    have hnm2 : (n : Int) < (e.muts.length : Int) := by omega
    obtain ⟨mb, mo, rfl, hmb⟩ := hms.addr (by omega)
    have hmb1 : mb < w.heap.size + 1 := by omega
    have hmb2 : mb < w.heap.size + 1 + 1 := by omega
    have hmb3 : mb < w.heap.size + 1 + 1 + 1 := by omega
    have hmb4 : mb < w.heap.size + 1 + 1 + 1 + 1 := by omega
    have c1 := hms.at_ hnm
    rw [boolsV_at hnm, (List.getElem?_eq_some_iff.1 hy).2] at c1
    have HF := Lib.hid (show formV e s 36 n = if y = true then some ([x], []) else none by cases y <;> simp [formV, hx, hy])
    have HN := Lib.hid hn
    clear h1 h2 h4 h5 hn hms hx hy hmg
    go_enter Try.func64, Try.ntmps64
    go_wp2_with fail
    go_region
    go_wp2
    refine bodyPost_ret (v := .tuple #[.agg #[.slice (some ⟨w.heap.size + 1 + 1 + 1 + 1, 0, none⟩) 1 1, .slice none 0 0, .int .u64 (n : Int), .int .i64 0, .int .i64 0], .bool y]) (by simp [results, Try.results64, go_sem]) rfl ?_
    have := HN.out
    refine ⟨_, _, n, 0, 0, y, [x], [], rfl, IR.one (at5 _ _ _ _ _ _ _).drew, IR.nil _, this, fun hf => ?_, fun x hf => ?_, (fun h => by cases h), (al5 _ _ _ _ _ _).drew⟩
    · rw [HF.out] at hf
      cases y with
      | false => exact .inl rfl
      | true => cases hf
    · rw [HF.out] at hf
      cases y with
      | false => cases hf
      | true =>
        simp at hf
        exact ⟨rfl, Nat.le_refl _, hf.symm, by decide, by decide⟩
  · have hlt' : decide ((e.globals.length : Int) ≤ (n : Int)) = true := by simp; omega
    have hge : e.globals.length ≤ n := by omega
    have HF := Lib.hid (show formV e s 36 n = none by simp [formV, hge])
    clear h1 h2 h4 h5 hn hm hmg
    go_enter Try.func64, Try.ntmps64
    go_wp2
    refine bodyPost_ret (v := .tuple #[.agg #[.slice none 0 0, .slice none 0 0, .int .u64 0, .int .i64 0, .int .i64 0], .bool false]) (by simp [results, Try.results64, go_sem]) rfl ?_
    exact ShP.no HF.out (al4 _ _ _ _ _)
end Go.Proofs.Ytkfnnmdghibjbaa