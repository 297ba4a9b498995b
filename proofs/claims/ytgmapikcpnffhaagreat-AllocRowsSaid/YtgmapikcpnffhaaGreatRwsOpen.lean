/-
 Programs of rows that came in, opened.
 Conditions: none.
-/
import Derived.Test.YtgmapikcpnffhaaGreatLivOpen
import Derived.Test.YtgmapikcpnffhaaGreatRWs
namespace Go.Proofs.YtgmapikcpnffhaaGreat
open Go.RowKit Go.Bk
set_option linter.unusedVariables false
section
variable {H : Type} {enc : TypeId × Value → H} {w : World}
theorem rd_rws : Reads enc Tryz.prog w 50 (fun w cs (l : List RowD) => ∃ v, cs = [v] ∧ Structs 5 RowC w v l) := by
 intro fuel cs x h hsm
 obtain ⟨l, v, e, hs, _⟩ := reads_structs (enc := enc) (w := w) Tryz.underlying50 (show Tryz.prog.cellsOf 31 = 5 by kernel_rfl) (by omega) (show 1 ≤ Tryz.prog.bytesOf 31 by decide +kernel) rd_row fuel cs x h hsm
 exact ⟨l, v, e, hs⟩
theorem cen : Tryz.prog.cellsOf 26 = 5 := by kernel_rfl
theorem crs : Tryz.prog.cellsOf 50 = 1 := by kernel_rfl
set_option maxRecDepth 100000 in
theorem rows_open {r : Reach} {b0 : Nat} {v : Value} {d : DataW H} {q : List MemPlace} (hv : Value.okWide Tryz.prog w r b0 52 v) (h : DataW.Trod enc Tryz.prog w 0 (fun _ => true) true 52 v d q) (hs : Small Tryz.prog 52 d) : ∃ p, RowsV w v p := by
 obtain ⟨cs, rfl⟩ := agg_of (t := 52) (fs := _) Tryz.underlying52 hv
 obtain ⟨fuel, hf⟩ := h
 obtain ⟨e, e0⟩ := field_at Tryz.underlying52 hf hs 0 0 5 26 rfl rd_env rfl rfl cen
 obtain ⟨l, v1, e1, i1⟩ := field_at Tryz.underlying52 hf hs 1 5 1 50 rfl rd_rws rfl rfl crs
 obtain ⟨_, _, _, _, hl, _, _⟩ := DataW.trod_struct Tryz.underlying52 hf
 have hl2 : (Value.agg cs).cells.toList.length = 6 := hl.trans (by kernel_rfl)
 have hc : (Value.agg cs).cells.toList = cs.toList := rfl
 rw [hc] at e0 e1 hl2
 match hcs : cs.toList, hl2 with
 | [x0, x1, x2, x3, x4, x5], _ =>
  rw [hcs] at e0 e1
  obtain ⟨a, b, c, hq, h1, h2, h3⟩ := e0
  simp at hq e1
  obtain ⟨rfl, rfl, rfl, rfl, rfl⟩ := hq
  subst e1
  refine ⟨⟨e, l⟩, x0, x2, x3, x5, ?_, h1, h2, h3, i1⟩
  have : cs = #[x0, .int .i64 e.imports, x2, x3, .bool e.mem, x5] := by
   apply Array.ext'
   rw [hcs]
  rw [this]
end
end Go.Proofs.YtgmapikcpnffhaaGreat
