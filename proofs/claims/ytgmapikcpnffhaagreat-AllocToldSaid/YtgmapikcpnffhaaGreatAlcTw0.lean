/-
  Rows told by homes, made by alloc.Run or by the document's Told, are read as such rows.
  Conditions: the row may be, and the homes are its own.
-/
import Derived.Test.YtgmapikcpnffhaaGreatAlcRTold
import Derived.Test.YtgmapikcpnffhaaGreatAlcSame
namespace Go.Proofs.YtgmapikcpnffhaaGreat
open Go.RowKit Go.Bk Go.Bk.Liv
set_option linter.unusedVariables false
set_option linter.unusedSimpArgs false
theorem CodeR.c {w0 w : World} {base : Nat} {cs : List Value} {c : CodeD} (h : CodeR w0 w base cs c) (hb : Below w0.heap.size w0 w) (ha : c.args.length ≤ 100) (ho : c.outs.length ≤ 100) : CodeC w cs c := by
  obtain ⟨a, b, d, e, h0, h1, h2, h3⟩ := h
  exact ⟨a, b, d, e, h0, Ints.own h1 (by omega), Ints.own h2 (by omega), h3.below hb (Nat.le_refl _)⟩
theorem CodesR.structs {w0 w : World} {base : Nat} {v : Value} {C : List CodeD} (h : CodesR w0 w base v C) (hb : Below w0.heap.size w0 w) (hl : C.length ≤ 100000) (hC : ∀ c ∈ C, c.args.length ≤ 100 ∧ c.outs.length ≤ 100 ∧ c.to.length ≤ 100) : Structs 5 CodeC w v C := by
  obtain ⟨vs, h1, h2, h3⟩ := h
  obtain ⟨A, c, rfl, hc⟩ := own_shape h1
  have hcm : c ≤ 9223372036854775807 ∧ (A = none → c = 0) := by
    rcases h1.2 with ⟨e, _⟩ | ⟨g, cap, cur, e, _, _, _, h5, _⟩
    · injection e with e1 e2 e3; subst e1; subst e3; exact ⟨by omega, fun _ => rfl⟩
    · injection e with e1 e2 e3; subst e1; subst e3; exact ⟨by unfold maxLen at h5; omega, fun e => by cases e⟩
  refine ⟨A, c, vs, rfl, hc, hcm.2, ⟨by omega, hcm.1⟩, h2, fun r hr => ?_, fun i r x q1 q2 => ?_, srcN_of_own h1⟩
  · obtain ⟨i, hi, rfl⟩ := List.getElem_of_mem hr
    obtain ⟨a, b, d, e, _⟩ := h3 i _ _ (List.getElem?_eq_getElem hi) (List.getElem?_eq_getElem (by omega))
    rw [e]
    rfl
  · have := hC x (List.mem_of_getElem? q2)
    exact (h3 i r x q1 q2).c hb this.1 this.2.1
/-- the lengths that a row that may be has -/
theorem row_lens {e : EnvD} {r : RowD} (hc : CheckP e r) : r.sig.inn.length ≤ 8 ∧ r.sig.out.length ≤ 8 ∧ r.params.length ≤ 8 ∧ r.code.length ≤ 4096 ∧ ∀ c ∈ r.code, c.args.length ≤ 100 ∧ c.outs.length ≤ 100 ∧ c.to.length ≤ 100 := by
  have h1 := sig_len hc.sig
  refine ⟨h1.1, h1.2, by rw [hc.par]; exact h1.1, hc.n2, fun c hcm => ?_⟩
  have hk := hc.code c hcm
  have h2 := code_lens hc hk
  exact ⟨h2.1, h2.2, code_to100 hk⟩
theorem told_lens {r : RowD} {hs : List Int} (h : ∀ c ∈ r.code, c.args.length ≤ 100 ∧ c.outs.length ≤ 100 ∧ c.to.length ≤ 100) : ∀ c ∈ (toldR r hs).code, c.args.length ≤ 100 ∧ c.outs.length ≤ 100 ∧ c.to.length ≤ 100 := by
  intro c hc
  obtain ⟨c0, h0, rfl⟩ := List.mem_map.1 (show c ∈ r.code.map (toldC hs) from hc)
  have := h c0 h0
  exact ⟨by show (toldL hs c0.args).length ≤ 100; rw [toldL_len]; exact this.1, by show (toldL hs c0.outs).length ≤ 100; rw [toldL_len]; exact this.2.1, this.2.2⟩
theorem params_own {w : World} {base : Nat} {p : Value} {r : RowD} {hs : List Int} (h : w.ownsRow base 3 1 p r.params.length (i64s (toldL hs r.params))) (hl : r.params.length ≤ 8) : Ints w p (toldL hs r.params) := by
  rw [← toldL_len hs r.params] at h
  exact Ints.own h (by rw [toldL_len]; omega)
theorem rowV_run {e : EnvD} {r : RowD} {hs : List Int} {w : World} {base : Nat} {a b p d : Value} (hc : CheckP e r) (oa : w.ownsRow base 3 1 a r.sig.inn.length (i64s r.sig.inn)) (ob : w.ownsRow base 3 1 b r.sig.out.length (i64s r.sig.out)) (op : w.ownsRow base 3 1 p r.params.length (i64s (toldL hs r.params))) (oc : CodesO w base d (r.code.map (toldC hs))) :
    RowV w (.agg #[a, b, .int .i64 (topOf hs), p, d]) (toldR r hs) := by
  have hl := row_lens hc
  exact ⟨a, b, p, d, rfl, Ints.own (l := r.sig.inn) oa (show r.sig.inn.length ≤ 1000000 by omega), Ints.own (l := r.sig.out) ob (show r.sig.out.length ≤ 1000000 by omega), params_own op hl.2.2.1, oc.structs (by rw [List.length_map]; omega) (told_lens (hs := hs) hl.2.2.2.2)⟩
theorem rowV_told {e : EnvD} {r : RowD} {hs : List Int} {w0 w : World} {vp vq vpar vs p d : Value} {x : Int} (hc : CheckP e r) (hr : RowV w0 (.agg #[vp, vq, .int .i64 x, vpar, vs]) r) (hb : Below w0.heap.size w0 w) (op : w.ownsRow w0.heap.size 3 1 p r.params.length (i64s (toldL hs r.params))) (oc : CodesR w0 w w0.heap.size d (r.code.map (toldC hs))) :
    RowV w (.agg #[vp, vq, .int .i64 (topOf hs), p, d]) (toldR r hs) := by
  have hl := row_lens hc
  obtain ⟨_, _, _, _, e, h4, h5, h6, h7⟩ := hr
  injection e with e
  injection e with e
  simp only [List.cons.injEq, and_true] at e
  obtain ⟨rfl, rfl, _, rfl, rfl⟩ := e
  exact ⟨vp, vq, p, d, rfl, h4.below hb (Nat.le_refl _), h5.below hb (Nat.le_refl _), params_own op hl.2.2.1, oc.structs hb (by rw [List.length_map]; omega) (told_lens (hs := hs) hl.2.2.2.2)⟩
theorem told_sm {e : EnvD} {r : RowD} {hs : List Int} (hc : CheckP e r) : (toldR r hs).code.length ≤ 100000 ∧ ((toldR r hs).sig.inn.length ≤ 1000 ∧ (toldR r hs).sig.out.length ≤ 1000 ∧ (toldR r hs).params.length ≤ 1000) ∧ ∀ c ∈ (toldR r hs).code, c.args.length ≤ 100 ∧ c.outs.length ≤ 100 ∧ c.to.length ≤ 100 := by
  have h := row_lens hc
  refine ⟨?_, ⟨?_, ?_, ?_⟩, told_lens h.2.2.2.2⟩
  · show (r.code.map (toldC hs)).length ≤ 100000
    rw [List.length_map]
    omega
  · show r.sig.inn.length ≤ 1000
    omega
  · show r.sig.out.length ≤ 1000
    omega
  · show (toldL hs r.params).length ≤ 1000
    rw [toldL_len]
    omega
end Go.Proofs.YtgmapikcpnffhaaGreat
