/-
  The statement MovesOwnSaid: at every input the law returns true, and its arguments read as before.
  Conditions: none but the row's own. (The frame is the kit's skeleton at this function; the walk is MovesOwn_true.)
-/
import Derived.Test.YtbnfhcdodejmhaaRows
import Derived.WalkKit
import Derived.ProofKit
import Derived.OpenShut
import Derived.ShutString
import Derived.ChangeOld
import Derived.Below
import Derived.SizedLaws

import Derived.Deep.SlicePairs

import Derived.Test.YtbnfhcdodejmhaaMovLaw4
namespace Go.Proofs.Ytbnfhcdodejmhaa.movesOwn
open Go.ChangeShapes Go.WideShapes Go.ChangeAt Go.RowKit
open Go.ChangeMaps (open_string shut_string)
set_option linter.unusedVariables false

theorem own : ownKnob Try.prog.godebug = none := by kernel_rfl
theorem laidOut : laidOutB Try.prog = true := by kernel_rfl

set_option maxRecDepth 100000 in
theorem lifted (os : Os) (started : os.Started) (H : Type) (enc : TypeId × Value → H) :
    ReturnsInHanded {} Try.checked os 9 .any (Rows.movesOwnSpec.pre6 enc Try.prog Try.f9 Rows.movesOwnRow.domain false) (Rows.movesOwnSpec.post enc Try.prog Try.f9 false true false false) := by
  refine returnsInHanded_of_change_sized (C := Try.checked) own started (by kernel_rfl) Try.func9
    (ChangeSpec.witness6 (enc := enc) (C := Try.checked) false ⟨#[], #[.slice none 0 0, .int .i64 0, .slice none 0 0], []⟩ 8 (by kernel_rfl) (by kernel_rfl) (by kernel_rfl) (by kernel_rfl)) ?_
  intro W base args ds gs before hval0 hW hcnd hsz0 _
  have hval : ∀ (j : Nat) t v, Try.f9.params[j]? = some t → args[j]? = some v → Value.okWide Try.prog W .any base t v := hval0
  have hW' := hW
  obtain ⟨p, q, hA0, hV, rfl, hfz, hnd⟩ := hW
  have hA : DataW.TrodAll enc Try.prog W 0 (fun _ => true) true Try.f9.params.toList args.toList ds p := hA0
  have hsz : (DataW.weightsEach Try.prog (Try.f9.params.toList ++ Rows.movesOwnSpec.plain.varTypes Try.prog) (ds ++ gs)).all (· ≤ reachBytes) = true := hsz0
  rw [Try.params9] at hA hval hsz
  obtain ⟨v0, vs0, d0, ds0, p0, q0, hargs, rfl, rfl, h0, r0⟩ := trodAll_cons hA
  obtain ⟨v1, vs1, d1, ds1, p1, q1, rfl, rfl, rfl, h1, r1⟩ := trodAll_cons r0
  obtain ⟨v2, vs2, d2, ds2, p2, q2, rfl, rfl, rfl, h2, r2⟩ := trodAll_cons r1
  obtain ⟨rfl, rfl, rfl⟩ := trodAll_nil r2
  obtain rfl : args = #[v0, v1, v2] := by cases args; simp_all
  obtain ⟨rfl, rfl⟩ := trodVars_none hV
  obtain ⟨a0, len0, cap0, rfl⟩ := okWide_slice Try.underlying22 (hval 0 22 v0 rfl rfl)
  have k0 := h0
  have lt0 : ∀ x ∈ p0, x.block < W.heap.size := by obtain ⟨m, hm⟩ := k0; exact DataW.trod_lt m _ _ _ hm
  obtain ⟨z0, s0, hb0⟩ : ∃ l : List Go.Bk.Mov.Mv, MvIn W a0 len0 cap0 l ∧ cap0 * Try.prog.bytesOf 38 ≤ reachBytes := by
    obtain ⟨fuel, hf⟩ := h0
    rcases Go.Deep.open_slice_pairs Try.underlying22 Try.underlying38 (by kernel_rfl) rfl rfl (by kernel_rfl) (by kernel_rfl) hf with ⟨hcs, _⟩ | ⟨x, l, c, m, n, V0, V1, D0, D1, P0, P1, hcs, _, hl, hm, hmm, hx, hcell⟩
    · simp [Value.cells] at hcs
      obtain ⟨rfl, rfl, rfl⟩ := hcs
      exact ⟨[], ⟨by rw [Nat.zero_mul]; exact Go.Bk.Src.nil _ _, Nat.le_refl _, fun _ => ⟨rfl, rfl⟩⟩, by simp⟩
    · simp [Value.cells] at hcs
      obtain ⟨rfl, rfl, rfl⟩ := hcs
      have hm' : m = cap0 := by simpa using hmm
      obtain ⟨l, hl1, hl2⟩ := pairs_src (m := m) (fun j hj => by
        obtain ⟨q0, q1, q2, q3⟩ := hcell j hj
        obtain ⟨x0, e0, _⟩ := DataW.trod_int Try.underlying3 q2
        obtain ⟨x1, e1, _⟩ := DataW.trod_int Try.underlying3 q3
        simp at e0 e1
        exact ⟨q0, q1, ⟨x0, e0⟩, ⟨x1, e1⟩⟩) len0 (by omega)
      refine ⟨l, ⟨hl2, hl, fun e => by cases e⟩, ?_⟩
      have hd : d0 = _ := congrArg Prod.fst hx
      rw [hd] at hsz
      have hw := sized_slice hsz (j := 0) (t := 22) (e := 38) rfl rfl Try.underlying22
      simp only [List.length_map, List.length_range] at hw
      refine Nat.le_trans (Nat.mul_le_mul_right _ ?_) hw
      omega
  obtain ⟨a1, rfl, rfl, rfl, w1⟩ := open_int Try.underlying3 (hval 1 3 v1 rfl rfl) h1
  obtain ⟨a2, len2, cap2, rfl⟩ := okWide_slice Try.underlying26 (hval 2 26 v2 rfl rfl)
  have k2 := h2
  have lt2 : ∀ x ∈ p2, x.block < W.heap.size := by obtain ⟨m, hm⟩ := k2; exact DataW.trod_lt m _ _ _ hm
  obtain ⟨z2, s2, hb2⟩ : ∃ zs, Go.Bk.RowIn .u64 W a2 len2 cap2 zs ∧ cap2 * Try.prog.bytesOf 34 ≤ reachBytes := by
    obtain ⟨fuel, hf⟩ := h2
    rcases open_ints Try.underlying26 Try.underlying34 (by kernel_rfl) hf with ⟨hcs, _⟩ | ⟨x, l, c, zs, hcs, _, hl, hm, hz, hx, hcell, hwz⟩
    · simp [Value.cells] at hcs
      obtain ⟨rfl, rfl, rfl⟩ := hcs
      exact ⟨[], .inl ⟨rfl, rfl, rfl, rfl⟩, by simp⟩
    · simp [Value.cells] at hcs
      obtain ⟨rfl, rfl, rfl⟩ := hcs
      refine ⟨zs, .inr ⟨_, rfl, hl, hm, by simpa using hz, hcell, hwz⟩, ?_⟩
      have hd : d2 = _ := congrArg Prod.fst hx
      rw [hd] at hsz
      have hz' : zs.length = cap2 := by simpa using hz
      have hw := sized_slice hsz (j := 2) (t := 26) (e := 34) rfl rfl Try.underlying26
      simp only [lits, List.length_map, List.length_take, List.length_drop] at hw
      refine Nat.le_trans (Nat.mul_le_mul_right _ ?_) hw
      omega
  clear hA0 hval0
  refine (MovesOwn_true W a0 len0 cap0 z0 s0 hb0 a1 w1 a2 len2 cap2 z2 s2 hb2).mono fun e W' ⟨he, bel⟩ => ?_
  subst he
  exact ⟨_, rfl, _, _, _, [], _, [], hW', trodAll_mk1 (shut_bool Try.underlying4 _), (trodAll_cons_mk (Below.trod laidOut (by kernel_rfl) (of_decide_eq_true (by kernel_rfl)) k0 bel lt0) (trodAll_cons_mk (shut_int Try.underlying3 w1) (trodAll_cons_mk (Below.trod laidOut (by kernel_rfl) (of_decide_eq_true (by kernel_rfl)) k2 bel lt2) trodAll_mk0))), rfl, bel.frame _, fun h => by cases h⟩

theorem over : Rows.movesOwnRow.holds Try.pinned (OpenSpec.ofChange Rows.movesOwnSpec) :=
  OpenClaim.holds_of_wide 9 Try.f9 rfl rfl rfl rfl rfl rfl rfl ⟨rfl, rfl, rfl, rfl, rfl⟩ rfl rfl rfl rfl rfl (by kernel_rfl) Try.func9 (by kernel_rfl)
    (of_decide_eq_true (by kernel_rfl)) (by unfold Func.isWrapper; first | (rw [if_pos (by decide +kernel)]; kernel_rfl) | (rw [if_neg (by decide +kernel)]; exact ⟨rfl, rfl⟩))
    (fun os started H enc _ => lifted os started H enc)

theorem proved : Rows.MovesOwnSaid := over
#print axioms proved
end Go.Proofs.Ytbnfhcdodejmhaa.movesOwn
