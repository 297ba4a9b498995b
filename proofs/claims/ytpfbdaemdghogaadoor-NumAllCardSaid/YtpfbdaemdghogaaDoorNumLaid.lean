/-
  What the row's condition on the library's two tables gives the walks, and that the program's own start meets it.
  Conditions: none.
-/
import Derived.Test.YtpfbdaemdghogaaDoorRows
import Derived.Test.YtpfbdaemdghogaaDoorNumCnt
import Derived.ProofKit
import Derived.LaidMore
import Derived.OpenShut
import Derived.Stop.Joined
namespace Go.Proofs.YtpfbdaemdghogaaDoor
open Go.ChangeShapes Go.WideShapes Go.ChangeAt Go.WideMaps Go.WideElems Go.RowKit

theorem own : ownKnob Tryd.prog.godebug = none := by kernel_rfl
theorem glo64 : Tryd.prog.globalNamed "math/bits.deBruijn64tab" = some 0 := by kernel_rfl
theorem glo32 : Tryd.prog.globalNamed "math/bits.deBruijn32tab" = some 1 := by kernel_rfl
theorem under32 : Tryd.prog.underlying 79 = some (.array 32 5) := by kernel_rfl
theorem under64 : Tryd.prog.underlying 78 = some (.array 64 5) := by kernel_rfl
abbrev laid2 : List (String × DataW Unit) := [("math/bits.deBruijn32tab", Rows.laid_math_bits_deBruijn32tab), ("math/bits.deBruijn64tab", Rows.laid_math_bits_deBruijn64tab)]

theorem door_met (os : Os) (args : Array Value) : laidMetH Tryd.prog laid2 ((World.doorLaid Tryd.prog 400 os).forCall (fun _ _ => 0) ⟨#[], args, []⟩).memory :=
  laidMetH_of_parts3 (fuel := 8) (laidMet_of_run' 8 (by kernel_rfl) (by kernel_rfl)) (by kernel_rfl) (by kernel_rfl)

theorem lits64 {H : Type} : (Rows.laid_math_bits_deBruijn64tab : DataW H) = .agg (Lib.deBruijn64tab.map fun n : Nat => .lit (.int .u8 (n : Int))) := by rfl
theorem lits32 {H : Type} : (Rows.laid_math_bits_deBruijn32tab : DataW H) = .agg (Lib.deBruijn32tab.map fun n : Nat => .lit (.int .u8 (n : Int))) := by rfl

theorem tab_of {H : Type} {enc : TypeId × Value → H} {W : World} {base : Nat} {sp : Nat → Bool} {held : Bool} {fuel n : Nat} {T e : TypeId} {cs : List Value} {l : List Nat} {ps : List MemPlace} (ht : Tryd.prog.underlying T = some (.array n e)) (he : Tryd.prog.underlying e = some (.int .u8)) (hc : Tryd.prog.cellsOf e = 1)
    (hl : l.length = n) (h : DataW.trod enc Tryd.prog W base sp held fuel T cs = some (.agg (l.map fun n : Nat => .lit (.int .u8 (n : Int))), ps)) : ∀ j, j < n → cs[j]? = some (.int .u8 ((l.getD j 0 : Nat) : Int)) := by
  obtain ⟨xs, m, _, hx, _, hxl, hel⟩ := DataW.trod_array ht h
  intro j hj
  have hj' := hel j hj
  rw [hc, Nat.mul_one, List.getElem?_eq_getElem (by omega)] at hj'
  obtain ⟨k, e1, e2, _⟩ := DataW.trod_int he hj'
  simp only [Prod.mk.injEq, DataW.agg.injEq] at hx
  have h1 := congrArg (fun z => z[j]?) hx.1
  simp only [List.getElem?_map] at h1
  rw [List.getElem?_eq_getElem (show j < l.length by omega), List.getElem?_eq_getElem (show j < xs.length by omega), e2] at h1
  simp at h1
  have h2 : cs[j]? = some (.int .u8 k) := by
    have := congrArg List.head? e1
    rw [List.head?_take, if_neg (by decide), List.head?_drop] at this
    exact this
  rw [h2, List.getD_eq_getElem?_getD, List.getElem?_eq_getElem (show j < l.length by omega), ← h1]
  rfl

theorem of_laid {W : World} (h : laidMetH Tryd.prog laid2 W) : Tabs W := by
  rw [MakeChecks.laidMetH_plain _ _ _ (by kernel_rfl)] at h
  obtain ⟨ps, ⟨g0, t0, cs0, f0, p0, q0, hg0, ht0, hv0, hd0, ⟨g1, t1, cs1, f1, p1, q1, hg1, ht1, hv1, hd1, _, _⟩, _⟩, _, _⟩ := h
  obtain rfl := Option.some.inj (glo32.symm.trans hg0)
  obtain rfl := Option.some.inj (glo64.symm.trans hg1)
  have T0 : (Tryd.prog.globals[1]?).map (·.type) = some 79 := by kernel_rfl
  have T1 : (Tryd.prog.globals[0]?).map (·.type) = some 78 := by kernel_rfl
  obtain rfl := Option.some.inj (T0.symm.trans ht0)
  obtain rfl := Option.some.inj (T1.symm.trans ht1)
  simp only [lits32] at hd0
  simp only [lits64] at hd1
  have c0 := tab_of (n := 32) under32 Tryd.underlying5 (by kernel_rfl) (by decide) hd0
  have c1 := tab_of (n := 64) under64 Tryd.underlying5 (by kernel_rfl) (by decide) hd1
  have k0 : TabAt 1 Lib.deBruijn32tab W := fun j hj => by
    rw [World.var?_cell hg0 hv0 j]
    simpa using c0 j hj
  have k1 : TabAt 0 Lib.deBruijn64tab W := fun j hj => by
    rw [World.var?_cell hg1 hv1 j]
    simpa using c1 j hj
  refine ⟨k1, k0, ?_⟩
  have b0 := (Go.Bk.cell_some (k0 0 (by decide))).2
  have b1 := (Go.Bk.cell_some (k1 0 (by decide))).2
  simp only at b0 b1
  omega
end Go.Proofs.YtpfbdaemdghogaaDoor
