/-
  LiveMutual: clashing goes both ways, and no place clashes with itself.
  Conditions: none.
-/
import Derived.Test.YtkfnnmdghibjbaaLivAl
namespace Go.Bk.Liv
open Go Go.RowKit Go.Bk
theorem Sall.range {e : EnvD} {r : RowD} (hc : CheckP e r) {a b : Int} (h : Sall r a b) : (0 ≤ a ∧ a < r.places) ∧ 0 ≤ b ∧ b < r.places := by
  rcases h with ⟨i, c, h1, h2, h3⟩ | ⟨h1, h2⟩
  · have hp := codeOk_places (hc.code c (List.mem_of_getElem? h1))
    refine ⟨hp.2.1 a h2, ?_⟩
    rcases h3 with ⟨h3, _⟩ | h3
    · exact h3.range hc
    · exact hp.2.1 b h3
  · refine ⟨within_mem hc.pin h1, ?_⟩
    rcases h2 with h2 | h2
    · exact within_mem hc.pin h2
    · exact h2.range hc
theorem Clashes.range {e : EnvD} {r : RowD} (hc : CheckP e r) {a b : Int} (h : Clashes r a b) : 0 ≤ b ∧ b < r.places := by
  rcases h.2 with h | h
  · exact (Sall.range hc h).2
  · exact (Sall.range hc h).1
theorem Clashes.symm {r : RowD} {a b : Int} (h : Clashes r a b) : Clashes r b a := ⟨fun e => h.1 e.symm, h.2.symm⟩
theorem IsSet.small {e : EnvD} {r : RowD} (hc : CheckP e r) {p : List Int} {Q : Int → Prop} (h : IsSet p Q) (hr : ∀ x, Q x → 0 ≤ x ∧ x < r.places) : p.length ≤ 4096 := by
  have h1 := hc.p1
  have h2 := hc.p2
  have := nodup_range_len (m := r.places.toNat) (h.1.imp (fun h => by omega)) (fun x hx => by have := hr x ((h.2 x).1 hx); omega)
  omega
theorem IsSet.lt {p : List Int} {Q : Int → Prop} (h : IsSet p Q) {j : Nat} {x y : Int} (hx : p[j]? = some x) (hy : p[j + 1]? = some y) : x < y := by
  obtain ⟨h1, e1⟩ := List.getElem?_eq_some_iff.1 hx
  obtain ⟨h2, e2⟩ := List.getElem?_eq_some_iff.1 hy
  have := List.pairwise_iff_getElem.1 h.1 j (j + 1) h1 h2 (by omega)
  rw [← e1, ← e2]
  exact this
end Go.Bk.Liv
namespace Go.Proofs.Ytkfnnmdghibjbaa
open Go.RowKit Go.Bk Go.Bk.Liv
set_option linter.unusedVariables false
set_option linter.unusedSimpArgs false
theorem Told.lists {w : World} {base : Nat} {v : Value} {n : Nat} {Q : Nat → Int → Prop} (h : Told w base v n Q) : ∃ P, LL w v P ∧ P.length = n ∧ ∀ (i : Nat) p, P[i]? = some p → IsSet p (Q i) := by
  have h' := h
  obtain ⟨vs, P, h1, h2, h3, h4⟩ := h
  exact ⟨P, h'.ll h3 h4, h3, h4⟩
def LawPost (w : World) (en : Ending) (w' : World) : Prop := en = .returned (.bool true) ∧ Below w.heap.size w w'
set_option maxRecDepth 100000 in
set_option maxHeartbeats 4000000 in
theorem LiveMutual_walk (e : EnvD) (r : RowD) (ve vr : Value) (w : World) (he : EnvV w ve e) (hr : RowV w vr r) : Calls Try.prog 6 #[ve, vr] w (LawPost w) := by
  have HE := Lib.hid he
  have HR := Lib.hid hr
  obtain ⟨va, vb, vd, rfl, h1, h2, h3⟩ := he
  obtain ⟨vp, vq, vr, vs, rfl, h4, h5, h6, h7⟩ := hr
  clear h1 h2 h3 h4 h5 h6 h7
  have HB0 := Lib.hid (al2 w (.cells #[va, .int .i64 e.imports, vb, vd, .bool e.mem] 26) (.cells #[vp, vq, .int .i64 r.places, vr, vs] 31))
  have KR0 := Lib.hid (Blk.newAt (w.alloc (.cells #[va, .int .i64 e.imports, vb, vd, .bool e.mem] 26)) (N := w.heap.size + 1) 31 #[vp, vq, .int .i64 r.places, vr, vs] (by simp))
  go_enter Try.func6, Try.ntmps6
  go_wp2_with fail
  (with_reducible refine (Clash_any e r _ _ _ (HE.out.below HB0.out (Nat.le_refl _)) (HR.out.below HB0.out (Nat.le_refl _))).mono ?_)
  rintro en w1 (⟨hnc, rfl, hb⟩ | ⟨hc, v, rfl, hT, hb⟩)
  · have HB := Lib.hid (HB0.out.trans (hb.mono HB0.out.size))
    clear hnc hb
    go_wp2_with fail
    refine (alive_any _).mono ?_
    rintro en w2 ⟨rfl, hb⟩
    have HB2 := Lib.hid (HB.out.trans (hb.mono HB.out.size))
    clear hb
    go_wp2
    go_ret
    exact ⟨rfl, HB2.out⟩
  · have HB := Lib.hid (HB0.out.trans (hb.mono HB0.out.size))
    have KR1 := Lib.hid (KR0.out.below hb KR0.out.lt)
    have HC := Lib.hid hc
    obtain ⟨P, hLL, hPl, hPs⟩ := hT.lists
    obtain ⟨n, hn⟩ : ∃ n : Nat, r.places = n := ⟨r.places.toNat, by have := hc.p1; omega⟩
    have hPn : P.length = n := by omega
    have hn4 : n ≤ 4096 := by have := hc.p2; omega
    obtain ⟨A, cA, rfl⟩ := hLL.shape
    rw [hPn] at hLL ⊢
    rw [hn] at KR1
    obtain ⟨r0, r1, r2, r3, r4⟩ := blk5 KR1.out
    have y1 := KR1.out.lt
    have q0 : ((n : Int) != (n : Int)) = false := by simp
    have HLL := Lib.hid hLL
    have HPS := Lib.hid hPs
    have HPN := Lib.hid hPn
    have HN := Lib.hid hn
    clear hb hc hT hLL hPl hPs hPn hn r0 r1 r3 r4
    go_wp2_with fail
    clear r2 y1
    go_loop [32] (fun i => ∃ k : Nat, k ≤ n ∧ i = .int .i64 k) (fun i => n - (intOf i).toNat)
    case atStart => exact ⟨0, by omega, rfl⟩
    case round =>
      obtain ⟨k, hk, rfl⟩ := hrel
      by_cases hlt : k < n
      · have hlt' : decide ((k : Int) < n) = true := by simp; omega
        have hlt2 : (k : Int) < n := by omega
        obtain ⟨p, hp⟩ : ∃ p, P[k]? = some p := ⟨_, List.getElem?_eq_getElem (by rw [HPN.out]; exact hlt)⟩
        have HP := Lib.hid hp
        have HS := Lib.hid (HPS.out k p hp)
        have hps := HS.out.small HC.out (fun x hx => hx.range HC.out)
        obtain ⟨b, o, B, cb, rfl, hb, hcl, hir⟩ := HLL.out.at hp
        obtain ⟨q, hq⟩ : ∃ q, p.length = q := ⟨_, rfl⟩
        rw [hq] at hcl hir hps
        have HQ := Lib.hid hq
        have HIR := Lib.hid hir
        clear hp hq hir
        go_wp2_with fail
        clear hcl
        go_loop [39] (fun i => ∃ j : Nat, j ≤ q ∧ i = .int .i64 j) (fun i => q - (intOf i).toNat)
        case atStart => exact ⟨0, by omega, rfl⟩
        case round =>
          obtain ⟨j, hj, rfl⟩ := hrel
          by_cases hjq : j < q
          · have hjq' : decide ((j : Int) < q) = true := by simp; omega
            have hjq2 : (j : Int) < q := by omega
            obtain ⟨x, hx⟩ : ∃ x, p[j]? = some x := ⟨_, List.getElem?_eq_getElem (by rw [HQ.out]; exact hjq)⟩
            have hcx := (HS.out.2 x).1 (List.mem_of_getElem? hx)
            have hxr := hcx.range HC.out
            obtain ⟨z, rfl⟩ : ∃ z : Nat, x = z := ⟨x.toNat, by omega⟩
            have hzn : z < n := by have := HN.out; omega
            obtain ⟨ab, ao, rfl, hab, hcl⟩ := HIR.out.cell hx
            obtain ⟨p2, hp2⟩ : ∃ p, P[z]? = some p := ⟨_, List.getElem?_eq_getElem (by rw [HPN.out]; exact hzn)⟩
            obtain ⟨b', o', B2, cb2, hae, hb2, hcl2, hir2⟩ := HLL.out.at hp2
            injection hae with hae
            injection hae with e1 e2
            subst e1
            subst e2
            have hin := ((HPS.out z p2 hp2).2 k).2 hcx.symm
            have hp2s := (HPS.out z p2 hp2).small HC.out (fun x hx => hx.range HC.out)
            have HIR2 := Lib.hid hir2
            have t1 : decide ((z : Int) < 0) = false := by simp
            have t2 : decide ((n : Int) ≤ (z : Int)) = false := by simp; omega
            have t3 : ((z : Int) == (k : Int)) = false := by
              have := hcx.1
              simp; omega
            have t4 : decide (n ≤ z) = false := by simp; omega
            have t5 : (z : Int) < n := by omega
            have HX := Lib.hid hx
            have HIN := Lib.hid hin
            have HP2S := Lib.hid hp2s
            have hcl' := (HIR.out.cell HX.out)
            clear hx hcx hxr hp2 hir2 hin hp2s hcl'
            by_cases hj0 : j = 0
            · have t6 : decide ((0 : Int) < (j : Int)) = false := by simp; omega
              have t6b : decide (0 < j) = false := by simp; omega
              have t6c : ¬ 0 < j := by omega
              clear hj0
              go_wp2_with fail
              (with_reducible refine (has_any _ p2 (k : Int) _ HIR2.out (by have := HP2S.out; omega)).mono ?_)
              rintro en w2 ⟨rfl, rfl⟩
              rw [decide_eq_true HIN.out]
              go_wp2
              all_goals exact ⟨⟨j + 1, by omega, by simp⟩, by simp [intOf]; omega⟩
            · obtain ⟨j0, hjj⟩ : ∃ j0, j = j0 + 1 := ⟨j - 1, by omega⟩
              obtain ⟨y, hy⟩ : ∃ y, p[j0]? = some y := ⟨_, List.getElem?_eq_getElem (by rw [HQ.out]; omega)⟩
              have hyx : y < (z : Int) := HS.out.lt hy (by rw [← hjj]; exact HX.out)
              obtain ⟨ab', ao', hae, hab', hcl3⟩ := HIR.out.cell hy
              injection hae with hae
              injection hae with e1 e2
              subst e1
              subst e2
              have t6 : decide ((0 : Int) < (j : Int)) = true := by simp; omega
              have t6b : decide (0 < j) = true := by simp; omega
              have t6c : 0 < j := by omega
              have t7 : decide ((z : Int) ≤ y) = false := by simp; omega
              have t8 : IntKind.i64.wrap ((j : Int) - 1) = (j0 : Int) := by rw [show (j : Int) - 1 = (j0 : Int) by omega]; exact IntWalk.i64_in _ (by omega)
              have t9 : j0 < q := by omega
              have t10 : (j0 : Int) < q := by omega
              clear hj0 hy hyx hjj
              go_wp2_with fail
              (with_reducible refine (has_any _ p2 (k : Int) _ HIR2.out (by have := HP2S.out; omega)).mono ?_)
              rintro en w2 ⟨rfl, rfl⟩
              rw [decide_eq_true HIN.out]
              go_wp2
              all_goals exact ⟨⟨j + 1, by omega, by simp⟩, by simp [intOf]; omega⟩
          · have hjq' : decide ((j : Int) < q) = false := by simp; omega
            go_wp2
            go_round
            case rel => exact ⟨k + 1, by omega, by simp⟩
            case measure => simp [intOf]; omega
      · have hlt' : decide ((k : Int) < n) = false := by simp; omega
        go_wp2_with fail
        refine (alive_any _).mono ?_
        rintro en w2 ⟨rfl, hb⟩
        have HB2 := Lib.hid (HB.out.trans (hb.mono HB.out.size))
        clear hb
        go_wp2
        go_ret
        exact ⟨rfl, HB2.out⟩
end Go.Proofs.Ytkfnnmdghibjbaa
