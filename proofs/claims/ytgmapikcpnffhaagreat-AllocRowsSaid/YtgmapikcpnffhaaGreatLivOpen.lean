/-
 Environments and rows that came in, opened.
 Conditions: none.
-/
import Derived.Test.YtgmapikcpnffhaaGreatLivPlain
import Derived.Test.YtgmapikcpnffhaaGreatLGen
import Derived.Test.YtgmapikcpnffhaaGreatChecked
namespace Go.Proofs.YtgmapikcpnffhaaGreat
open Go.RowKit Go.Bk
set_option linter.unusedVariables false
section
variable {H : Type} {enc : TypeId × Value → H} {w : World}
theorem rd_ints : Reads enc Tryz.prog w 23 (fun w cs (l : List Int) => ∃ v, cs = [v] ∧ Ints w v l) := reads_ints Tryz.underlying23 Tryz.underlying3 (by kernel_rfl) (by kernel_rfl)
theorem rd_bools : Reads enc Tryz.prog w 24 (fun w cs (l : List Bool) => ∃ v, cs = [v] ∧ Bools w v l) := reads_bools Tryz.underlying24 Tryz.underlying4 (by kernel_rfl) (show 1 ≤ Tryz.prog.bytesOf 4 by decide +kernel)
theorem c1 : Tryz.prog.cellsOf 23 = 1 := by kernel_rfl
set_option maxRecDepth 100000 in
theorem rd_sig : Reads enc Tryz.prog w 28 SigC := by
 intro fuel cs x h hsm
 obtain ⟨l0, v0, e0, i0⟩ := field_at Tryz.underlying28 h hsm 0 0 1 23 rfl rd_ints rfl rfl c1
 obtain ⟨l1, v1, e1, i1⟩ := field_at Tryz.underlying28 h hsm 1 1 1 23 rfl rd_ints rfl rfl c1
 obtain ⟨_, _, _, _, hl, _, _⟩ := DataW.trod_struct Tryz.underlying28 h
 have hl2 : cs.length = 2 := hl.trans (by kernel_rfl)
 match cs, hl2 with
 | [a, b], _ =>
  simp at e0 e1
  subst e0
  subst e1
  exact ⟨⟨l0, l1⟩, _, _, rfl, i0, i1⟩
theorem rd_sigs : Reads enc Tryz.prog w 22 (fun w cs (l : List SigD) => ∃ v, cs = [v] ∧ Structs 2 SigC w v l) := by
 intro fuel cs x h hsm
 obtain ⟨l, v, e, hs, _⟩ := reads_structs (enc := enc) (w := w) Tryz.underlying22 (show Tryz.prog.cellsOf 28 = 2 by kernel_rfl) (by omega) (show 1 ≤ Tryz.prog.bytesOf 28 by decide +kernel) rd_sig fuel cs x h hsm
 exact ⟨l, v, e, hs⟩
theorem rd_i64 : Reads enc Tryz.prog w 3 (fun _ cs (a : Int) => cs = [.int .i64 a] ∧ (Lit.int .i64 a).wf = true) := reads_int Tryz.underlying3
theorem rd_u64 : Reads enc Tryz.prog w 46 (fun _ cs (a : Int) => cs = [.int .u64 a] ∧ (Lit.int .u64 a).wf = true) := reads_int Tryz.underlying46
theorem rd_bool1 : Reads enc Tryz.prog w 4 (fun _ cs (a : Bool) => cs = [.bool a]) := reads_bool Tryz.underlying4
theorem ci : Tryz.prog.cellsOf 3 = 1 := by kernel_rfl
theorem cu : Tryz.prog.cellsOf 46 = 1 := by kernel_rfl
theorem cb : Tryz.prog.cellsOf 4 = 1 := by kernel_rfl
theorem cbs : Tryz.prog.cellsOf 24 = 1 := by kernel_rfl
theorem cgs : Tryz.prog.cellsOf 22 = 1 := by kernel_rfl
theorem cg : Tryz.prog.cellsOf 28 = 2 := by kernel_rfl
theorem ccs : Tryz.prog.cellsOf 29 = 1 := by kernel_rfl
set_option maxRecDepth 100000 in
theorem rd_env : Reads enc Tryz.prog w 26 EnvC := by
 intro fuel cs x h hsm
 obtain ⟨l0, v0, e0, i0⟩ := field_at Tryz.underlying26 h hsm 0 0 1 22 rfl rd_sigs rfl rfl cgs
 obtain ⟨l1, e1, i1⟩ := field_at Tryz.underlying26 h hsm 1 1 1 3 rfl rd_i64 rfl rfl ci
 obtain ⟨l2, v2, e2, i2⟩ := field_at Tryz.underlying26 h hsm 2 2 1 23 rfl rd_ints rfl rfl c1
 obtain ⟨l3, v3, e3, i3⟩ := field_at Tryz.underlying26 h hsm 3 3 1 24 rfl rd_bools rfl rfl cbs
 obtain ⟨l4, e4⟩ := field_at Tryz.underlying26 h hsm 4 4 1 4 rfl rd_bool1 rfl rfl cb
 obtain ⟨_, _, _, _, hl, _, _⟩ := DataW.trod_struct Tryz.underlying26 h
 have hl2 : cs.length = 5 := hl.trans (by kernel_rfl)
 match cs, hl2 with
 | [a, b, c, d, f], _ =>
  simp at e0 e1 e2 e3 e4
  subst e0
  subst e1
  subst e2
  subst e3
  subst e4
  exact ⟨⟨l0, l1, l2, l3, l4⟩, _, _, _, rfl, i0, i2, i3⟩
set_option maxRecDepth 100000 in
theorem rd_code : Reads enc Tryz.prog w 48 CodeC := by
 intro fuel cs x h hsm
 obtain ⟨l0, e0, i0⟩ := field_at Tryz.underlying48 h hsm 0 0 1 3 rfl rd_i64 rfl rfl ci
 obtain ⟨l1, e1, i1⟩ := field_at Tryz.underlying48 h hsm 1 1 1 46 rfl rd_u64 rfl rfl cu
 obtain ⟨l2, v2, e2, i2⟩ := field_at Tryz.underlying48 h hsm 2 2 1 23 rfl rd_ints rfl rfl c1
 obtain ⟨l3, v3, e3, i3⟩ := field_at Tryz.underlying48 h hsm 3 3 1 23 rfl rd_ints rfl rfl c1
 obtain ⟨l4, v4, e4, i4⟩ := field_at Tryz.underlying48 h hsm 4 4 1 23 rfl rd_ints rfl rfl c1
 obtain ⟨_, _, _, _, hl, _, _⟩ := DataW.trod_struct Tryz.underlying48 h
 have hl2 : cs.length = 5 := hl.trans (by kernel_rfl)
 match cs, hl2 with
 | [a, b, c, d, f], _ =>
  simp at e0 e1 e2 e3 e4
  subst e0
  subst e1
  subst e2
  subst e3
  subst e4
  have h0 := i64_bounds i0
  have h1 := u64_bounds i1
  obtain ⟨n, rfl⟩ : ∃ n : Nat, l1 = n := ⟨l1.toNat, by omega⟩
  exact ⟨⟨l0, n, l2, l3, l4⟩, _, _, _, rfl, ⟨by show n < _; omega, h0⟩, i2, i3, i4⟩
theorem rd_codes : Reads enc Tryz.prog w 29 (fun w cs (l : List CodeD) => ∃ v, cs = [v] ∧ Structs 5 CodeC w v l) := by
 intro fuel cs x h hsm
 obtain ⟨l, v, e, hs, _⟩ := reads_structs (enc := enc) (w := w) Tryz.underlying29 (show Tryz.prog.cellsOf 48 = 5 by kernel_rfl) (by omega) (show 1 ≤ Tryz.prog.bytesOf 48 by decide +kernel) rd_code fuel cs x h hsm
 exact ⟨l, v, e, hs⟩
set_option maxRecDepth 100000 in
theorem rd_row : Reads enc Tryz.prog w 31 RowC := by
 intro fuel cs x h hsm
 obtain ⟨l0, e0⟩ := field_at Tryz.underlying31 h hsm 0 0 2 28 rfl rd_sig rfl rfl cg
 obtain ⟨l1, e1, i1⟩ := field_at Tryz.underlying31 h hsm 1 2 1 3 rfl rd_i64 rfl rfl ci
 obtain ⟨l2, v2, e2, i2⟩ := field_at Tryz.underlying31 h hsm 2 3 1 23 rfl rd_ints rfl rfl c1
 obtain ⟨l3, v3, e3, i3⟩ := field_at Tryz.underlying31 h hsm 3 4 1 29 rfl rd_codes rfl rfl ccs
 obtain ⟨_, _, _, _, hl, _, _⟩ := DataW.trod_struct Tryz.underlying31 h
 have hl2 : cs.length = 5 := hl.trans (by kernel_rfl)
 match cs, hl2 with
 | [a, b, c, d, f], _ =>
  simp at e0 e1 e2 e3
  obtain ⟨x0, x1, x2, x3, x4⟩ := e0
  subst e1
  subst e2
  subst e3
  simp at x2
  obtain ⟨rfl, rfl⟩ := x2
  exact ⟨⟨l0, l1, l2, l3⟩, _, _, _, _, rfl, x3, x4, i2, i3⟩
end
theorem small_of {H : Type} {P : Program} {ts : List TypeId} {ds : List (DataW H)} (h : (DataW.weightsEach P ts ds).all (· ≤ reachBytes) = true) {j : Nat} {t : TypeId} {d : DataW H} (ht : ts[j]? = some t) (hd : ds[j]? = some d) : Small P t d := fun n hn => by
 have := List.all_eq_true.1 h n (DataW.weights_mem_each (j := j) ht hd n hn)
 simpa using this
section
variable {H : Type} {enc : TypeId × Value → H} {w : World}
set_option maxRecDepth 100000 in
theorem agg_of {r : Reach} {b0 : Nat} {t : TypeId} {fs : Array Field} {v : Value} (ht : Tryz.prog.underlying t = some (.struct fs)) (hv : Value.okWide Tryz.prog w r b0 t v) : ∃ cs, v = .agg cs := by
 simp only [Value.okWide, ht] at hv
 obtain ⟨cs, rfl, _⟩ := hv
 exact ⟨cs, rfl⟩
end
end Go.Proofs.YtgmapikcpnffhaaGreat
