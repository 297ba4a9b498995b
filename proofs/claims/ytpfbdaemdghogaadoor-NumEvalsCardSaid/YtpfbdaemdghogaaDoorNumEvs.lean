/-
  NumEvals: what the statement's function answers.
  Conditions: the library's two tables hold what their initialisers lay; the slice is within the row's own reach.
-/
import Derived.Test.YtpfbdaemdghogaaDoorNumRAny
import Derived.Test.YtpfbdaemdghogaaDoorNumFits
namespace Go.Proofs.YtpfbdaemdghogaaDoor
open Go.RowKit Go.Bk Go.Bk.Num
set_option linter.unusedVariables false
set_option linter.unusedSimpArgs false

set_option maxRecDepth 100000 in
set_option maxHeartbeats 2000000 in
theorem NumEvals_true (w : World) (hT : Tabs w) (op : Int) (hop : (Lit.int .i64 op).wf = true) (A : Option Addr) (n cp : Nat) (zs : List Int) (hz : RowIn .u64 w A n cp zs) (hreach : cp * Tryd.prog.bytesOf 23 ≤ reachBytes) :
    Calls Tryd.prog 3 #[.int .i64 op, .slice A n cp] w fun e w' => e = .returned (.bool true) ∧ Below w.heap.size w w' := by
  obtain ⟨ho1, ho2⟩ := i64_bounds hop
  obtain ⟨l, hs, h64, hl, _⟩ := rowIn64 hz
  have HS := Lib.hid hs
  have H64 := Lib.hid h64
  have HT := Lib.hid hT
  obtain ⟨E, hE⟩ : ∃ E, evalV op l = E := ⟨_, rfl⟩
  obtain ⟨v, er⟩ := E
  have HE := Lib.hid hE
  have e1 : (v == v) = true := by simp
  have e2 : (er == er) = true := by simp
  clear hs h64 hT hE hz hreach hop hl
  go_enter Tryd.func3, Tryd.ntmps3
  go_wp2_with fail
  refine (Eval_any op A n cp l _ ho1 ho2 HS.out H64.out HT.out).mono ?_
  rintro e w1 ⟨rfl, hb1⟩
  rw [HE.out]
  have HB1 := Lib.hid hb1
  clear hb1
  go_wp2_with fail
  refine (reval_any op A n cp l _ (HS.out.below HB1.out (Nat.le_refl _)) H64.out).mono ?_
  rintro e w2 ⟨rfl, hb2⟩
  rw [HE.out]
  have HB2 := Lib.hid (HB1.out.trans (hb2.mono HB1.out.size))
  clear hb2
  have HTZ := Lib.hid (HT.out.below HB2.out HT.out.2.2)
  go_wp2_with fail
  refine (alive_any _ HTZ.out).mono ?_
  rintro e w5 ⟨rfl, hb5⟩
  have HB5 := Lib.hid (HB2.out.trans (hb5.mono HB2.out.size))
  clear hb5
  go_wp2
  go_ret
  exact ⟨rfl, HB5.out⟩
end Go.Proofs.YtpfbdaemdghogaaDoor
