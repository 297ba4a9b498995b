/-
  The document's answers of what is live, ahead and behind: bellcrankref19.Ahead and Behind.
  Conditions: none.
-/
import Derived.Test.YtkfnnmdghibjbaaLivTa
namespace Go.Bk.Liv
open Go Go.RowKit Go.Bk
set_option linter.unusedVariables false
set_option linter.unusedSimpArgs false
theorem row_live {e : EnvD} {r : RowD} {P : Nat} {f : Nat → Bool} {Q : Int → Prop} {p : List Int} (h : IsSet p (fun x => ∃ i : Nat, x = i ∧ i < P ∧ f i = true)) (hf : ∀ q : Nat, q < P → (f q = true ↔ Q q)) (hr : ∀ x, Q x → 0 ≤ x ∧ x < (P : Int)) : IsSet p Q :=
  h.imp fun x => ⟨fun ⟨i, e, hi, h⟩ => by subst e; exact (hf i hi).1 h, fun hq => by
    have := hr x hq
    obtain ⟨i, rfl⟩ : ∃ i : Nat, x = i := ⟨x.toNat, by omega⟩
    exact ⟨i, rfl, by omega, (hf i (by omega)).2 hq⟩⟩
end Go.Bk.Liv
namespace Go.Proofs.Ytkfnnmdghibjbaa
open Go.RowKit Go.Bk Go.Bk.Liv
set_option linter.unusedVariables false
set_option linter.unusedSimpArgs false
/-- lists of one's own so far, as Told says of them -/
def TolS (w2 : World) (v : Value) (k : Nat) (Q : Nat → Int → Prop) (wr : World) : Prop := ∃ vs PP, wr.ownsRow w2.heap.size 23 1 v k vs ∧ RowsOf wr w2.heap.size vs PP ∧ PP.length = k ∧ (∀ (i : Nat) p, PP[i]? = some p → IsSet p (Q i)) ∧ Below w2.heap.size w2 wr
theorem TolS.start (w2 : World) (Q : Nat → Int → Prop) : TolS w2 (.slice none 0 0) 0 Q w2 := ⟨[], [], World.ownsRow_nil _ _ _ _, ⟨rfl, fun i u p h => by simp at h⟩, rfl, fun i p h => by simp at h, Below.refl _ _⟩
theorem TolS.told {w2 wr : World} {v : Value} {k : Nat} {Q : Nat → Int → Prop} (h : TolS w2 v k Q wr) : Told wr w2.heap.size v k Q := by
  obtain ⟨vs, PP, h1, h2, h3, h4, _⟩ := h
  exact ⟨vs, PP, h1, h2, h3, h4⟩
theorem TolS.below {w2 wr : World} {v : Value} {k : Nat} {Q : Nat → Int → Prop} (h : TolS w2 v k Q wr) : Below w2.heap.size w2 wr := by
  obtain ⟨vs, PP, h1, h2, h3, h4, h5⟩ := h
  exact h5
theorem TolS.keep {w2 wr wr' : World} {v : Value} {k : Nat} {Q : Nat → Int → Prop} (h : TolS w2 v k Q wr) (hb : Below wr.heap.size wr wr') : TolS w2 v k Q wr' := by
  obtain ⟨vs, PP, h1, h2, h3, h4, h5⟩ := h
  exact ⟨vs, PP, own_below h1 hb (Nat.le_refl _), h2.grown (below_grownBy hb) (fun _ _ _ => by simp), h3, h4, h5.trans (hb.mono h5.size)⟩
theorem TolS.shape {w2 wr : World} {v : Value} {k : Nat} {Q : Nat → Int → Prop} (h : TolS w2 v k Q wr) : ∃ A c, v = .slice A k c := by
  obtain ⟨vs, PP, h1, _⟩ := h
  obtain ⟨A, c, e, _⟩ := own_shape h1
  exact ⟨A, c, e⟩
/-- the next list is laid behind them -/
theorem TolS.open {w2 wr : World} {v : Value} {k : Nat} {Q : Nat → Int → Prop} (h : TolS w2 v k Q wr) : ∃ vs PP, wr.ownsRow w2.heap.size 23 1 v k vs ∧ RowsOf wr w2.heap.size vs PP ∧ PP.length = k ∧ (∀ (i : Nat) p, PP[i]? = some p → IsSet p (Q i)) ∧ Below w2.heap.size w2 wr := h
theorem TolS.push2 {w2 wr wr' : World} {v v' u : Value} {k : Nat} {Q : Nat → Int → Prop} {p : List Int} {vs : List Value} {PP : List (List Int)} (h1 : wr.ownsRow w2.heap.size 23 1 v k vs) (h : RowsOf wr w2.heap.size vs PP ∧ PP.length = k ∧ (∀ (i : Nat) p, PP[i]? = some p → IsSet p (Q i)) ∧ Below w2.heap.size w2 wr)
    (hu : wr.ownsRow w2.heap.size 3 1 u p.length (i64s p)) (hp : IsSet p (Q k)) (ho : wr'.ownsRow w2.heap.size 23 1 v' (k + 1) (vs ++ [u])) (hg : wr.grownBy wr' v.ownBlock) : TolS w2 v' (k + 1) Q wr' := by
  obtain ⟨h2, h3, h4, h5⟩ := h
  have hr : ∀ g cs, Blk wr g 3 cs → v.ownBlock ≠ some g := fun g cs hb => own_ne h1 hb (by decide)
  refine ⟨vs ++ [u], PP ++ [p], ho, (h2.grown hg hr).push (own_grown hu hg (fun g hgg => by
      obtain ⟨cur, hb⟩ := own_blk hu hgg
      exact hr g cur hb)), by simp [h3], fun i q hq => ?_, below_grown h5 hg h5.size (fun j hj => (h1.lt j hj).1)⟩
  by_cases hi : i < PP.length
  · rw [List.getElem?_append_left hi] at hq
    exact h4 i q hq
  · rw [List.getElem?_append_right (by omega)] at hq
    have h0 : i - PP.length = 0 := by
      have := (List.getElem?_eq_some_iff.1 hq).1
      simp at this
      omega
    rw [h0] at hq
    simp at hq
    subst hq
    have : i = k := by omega
    rw [this]
    exact hp
set_option maxRecDepth 100000 in
set_option maxHeartbeats 8000000 in
theorem rAhead_any (e : EnvD) (r : RowD) (ve vr : Value) (w : World) (he : EnvV w ve e) (hr : RowV w vr r) : Calls Try.prog 10 #[ve, vr] w (AhPost e r r.code.length (Live r) w) := by
  have HE := Lib.hid he
  have HR := Lib.hid hr
  obtain ⟨va, vb, vd, rfl, h1, h2, h3⟩ := he
  obtain ⟨vp, vq, vr, vs, rfl, h4, h5, h6, h7⟩ := hr
  clear h1 h2 h3 h4 h5 h6 h7
  have HB0 := Lib.hid (al2 w (.cells #[va, .int .i64 e.imports, vb, vd, .bool e.mem] 26) (.cells #[vp, vq, .int .i64 r.places, vr, vs] 31))
  have KR0 := Lib.hid (Blk.newAt (w.alloc (.cells #[va, .int .i64 e.imports, vb, vd, .bool e.mem] 26)) (N := w.heap.size + 1) 31 #[vp, vq, .int .i64 r.places, vr, vs] (by simp))
  obtain ⟨n, hn⟩ : ∃ n, r.code.length = n := ⟨_, rfl⟩
  rw [hn]
  have HN := Lib.hid hn
  clear hn
  go_enter Try.func10, Try.ntmps10
  go_wp2_with fail
  (with_reducible refine (rcheck_any e r _ _ _ (HE.out.below HB0.out (Nat.le_refl _)) (HR.out.below HB0.out (Nat.le_refl _))).mono ?_)
  rintro en w1 ⟨b, rfl, hbc, hb1⟩
  have HB1 := Lib.hid (HB0.out.trans (hb1.mono HB0.out.size))
  have HBC := Lib.hid hbc
  have KR1 := Lib.hid (KR0.out.below hb1 KR0.out.lt)
  clear hb1 hbc
  cases b with
  | false =>
    go_wp2
    go_ret2
    exact .inl ⟨(fun h => by have := HBC.out.2 h; cases this), rfl, HB1.out⟩
  | true =>
    have HC := Lib.hid (HBC.out.1 rfl)
    obtain ⟨P, hP⟩ : ∃ P : Nat, r.places = P := ⟨r.places.toNat, by have := HC.out.p1; omega⟩
    have hP4 : P ≤ 4096 := by have := HC.out.p2; omega
    have hn4 : n ≤ 4096 := by have := HC.out.n2; have := HN.out; omega
    have hn1 : 0 < n := by have := HC.out.n1; have := HN.out; omega
    have HP := Lib.hid hP
    obtain ⟨r0, r1, r2, r3, r4⟩ := blk5 KR1.out
    have y1 := KR1.out.lt
    clear hP
    go_wp2_with fail
    (with_reducible refine (table_any e r _ n P _ (HR.out.below HB1.out (Nat.le_refl _)) HC.out HN.out HP.out).mono ?_)
    rintro en w2 ⟨vt, gs, T, rfl, hT, hL, hb2⟩
    have HB2 := Lib.hid (HB1.out.trans (hb2.mono HB1.out.size))
    have HT := Lib.hid hT
    have HL := Lib.hid hL
    have KR2 := Lib.hid (KR1.out.below hb2 KR1.out.lt)
    obtain ⟨At, ct, rfl⟩ := hT.shape
    have HS0 := Lib.hid (TolS.start w2 (Live r))
    clear hT hL hb2 r0 r1 r2 r3 r4 y1
    go_wp2
    go_loopw [7, 8] (fun v i wr => ∃ k : Nat, k ≤ n ∧ i = .int .i64 k ∧ Hid (TolS w2 v k (Live r) wr)) (fun _ i _ => n - (intOf i).toNat)
    case atStart => exact ⟨0, by omega, rfl, HS0⟩
    case round =>
      clear HS0
      obtain ⟨k, hk, rfl, IS⟩ := hrel
      obtain ⟨Av, cv, hv⟩ := IS.out.shape
      subst hv
      by_cases hkn : k < n
      · have t1 : decide ((k : Int) < n) = true := by simp; omega
        have t2 : (k : Int) < n := by omega
        obtain ⟨b, o, C, kC, rfl, hb, hc, hs⟩ := (HT.out.below IS.out.below).tb.row hkn
        have HS := Lib.hid hs
        clear hs
        go_wp2_with fail
        (with_reducible refine (list_any _ P _ (T k) _ HS.out hP4).mono ?_)
        rintro en w3 ⟨u, p, rfl, ho, hpl, hset, hb3⟩
        have HST := Lib.hid (show IsSet p (Live r k) from row_live (e := e) (r := r) hset (fun q hq => HL.out k q hkn hq) (fun x hx => by have := hx.range HC.out; rw [HP.out] at this; exact this))
        have IS1 := Lib.hid (IS.out.keep hb3)
        have HO := Lib.hid (own_mono ho IS.out.below.size)
        obtain ⟨q, hq⟩ : ∃ q, p.length = q := ⟨_, rfl⟩
        obtain ⟨A1, c1, e1, _⟩ := own_shape ho
        subst e1
        rw [hq] at ho HO hpl ⊢
        have HQ := Lib.hid hq
        have HO2 := Lib.hid (own_alloc HO.out (.cells #[.slice A1 q c1] 23))
        have IS2 := Lib.hid (IS1.out.keep ((Below.refl _ _).alloc (Nat.le_refl _) (.cells #[.slice A1 q c1] 23)))
        have hz := IS1.out.below.size
        obtain ⟨vs, PP, hvs, hPP⟩ := IS2.out.open
        have HVS := Lib.hid hvs
        have HPP := Lib.hid hPP
        clear ho hset hb3 hq hvs hPP IS2 IS1
        go_wp2_with (at_builtin; refine append_at _ rfl (.tmp 21) (.tmp 27) 32 rfl w2.heap.size 23 (.slice none 0 0) 1 24 Try.underlying32 info_ints rfl (by omega) (.slice Av k cv) k vs rfl HVS.out (some ⟨w3.heap.size, 0, none⟩) 1 1 [.slice A1 q c1] rfl (Blk.srcAll (cs := #[.slice A1 q c1]) (Blk.newAt _ _ _ rfl) rfl) (one_slice _ _ _) (by unfold maxLen; omega) (by omega) (by simp; omega) ?_)
        rintro v' w' g1 g2 g3 _
        have IS3 := Lib.hid (TolS.push2 (u := .slice A1 q c1) (p := p) HVS.out HPP.out (by rw [HQ.out]; exact HO2.out) HST.out g1 g2)
        clear g1 g2 g3
        go_wp2
        exact ⟨⟨k + 1, by omega, by simp, IS3⟩, by simp [intOf]; omega⟩
      · have t1 : decide ((k : Int) < n) = false := by simp; omega
        have hkn2 : k = n := by omega
        subst hkn2
        go_wp2
        go_ret2
        exact .inr ⟨HC.out, _, rfl, IS.out.told.mono HB2.out.size, HB2.out.trans (IS.out.below.mono HB2.out.size)⟩
set_option maxRecDepth 100000 in
set_option maxHeartbeats 8000000 in
theorem rBehind_any (e : EnvD) (r : RowD) (ve vr : Value) (w : World) (he : EnvV w ve e) (hr : RowV w vr r) : Calls Try.prog 12 #[ve, vr] w (AhPost e r r.code.length (LiveB r) w) := by
  have HE := Lib.hid he
  have HR := Lib.hid hr
  obtain ⟨va, vb, vd, rfl, h1, h2, h3⟩ := he
  obtain ⟨vp, vq, vr, vs, rfl, h4, h5, h6, h7⟩ := hr
  clear h1 h2 h3 h4 h5 h6 h7
  have HB0 := Lib.hid (al2 w (.cells #[va, .int .i64 e.imports, vb, vd, .bool e.mem] 26) (.cells #[vp, vq, .int .i64 r.places, vr, vs] 31))
  have KR0 := Lib.hid (Blk.newAt (w.alloc (.cells #[va, .int .i64 e.imports, vb, vd, .bool e.mem] 26)) (N := w.heap.size + 1) 31 #[vp, vq, .int .i64 r.places, vr, vs] (by simp))
  obtain ⟨n, hn⟩ : ∃ n, r.code.length = n := ⟨_, rfl⟩
  rw [hn]
  have HN := Lib.hid hn
  clear hn
  go_enter Try.func12, Try.ntmps12
  go_wp2_with fail
  (with_reducible refine (rcheck_any e r _ _ _ (HE.out.below HB0.out (Nat.le_refl _)) (HR.out.below HB0.out (Nat.le_refl _))).mono ?_)
  rintro en w1 ⟨b, rfl, hbc, hb1⟩
  have HB1 := Lib.hid (HB0.out.trans (hb1.mono HB0.out.size))
  have HBC := Lib.hid hbc
  have KR1 := Lib.hid (KR0.out.below hb1 KR0.out.lt)
  clear hb1 hbc
  cases b with
  | false =>
    go_wp2
    go_ret2
    exact .inl ⟨(fun h => by have := HBC.out.2 h; cases this), rfl, HB1.out⟩
  | true =>
    have HC := Lib.hid (HBC.out.1 rfl)
    obtain ⟨P, hP⟩ : ∃ P : Nat, r.places = P := ⟨r.places.toNat, by have := HC.out.p1; omega⟩
    have hP4 : P ≤ 4096 := by have := HC.out.p2; omega
    have hn4 : n ≤ 4096 := by have := HC.out.n2; have := HN.out; omega
    have hn1 : 0 < n := by have := HC.out.n1; have := HN.out; omega
    have HP := Lib.hid hP
    obtain ⟨r0, r1, r2, r3, r4⟩ := blk5 KR1.out
    have y1 := KR1.out.lt
    clear hP
    go_wp2_with fail
    (with_reducible refine (table_any e r _ n P _ (HR.out.below HB1.out (Nat.le_refl _)) HC.out HN.out HP.out).mono ?_)
    rintro en w2 ⟨vt, gs, T, rfl, hT, hL, hb2⟩
    have HB2 := Lib.hid (HB1.out.trans (hb2.mono HB1.out.size))
    have HT := Lib.hid hT
    have HL := Lib.hid hL
    have KR2 := Lib.hid (KR1.out.below hb2 KR1.out.lt)
    obtain ⟨At, ct, rfl⟩ := hT.shape
    have HS0 := Lib.hid (TolS.start w2 (LiveB r))
    clear hT hL hb2 r0 r1 r2 r3 r4 y1
    go_wp2
    go_loopw [7, 8] (fun v i wr => ∃ k : Nat, k ≤ n ∧ i = .int .i64 k ∧ Hid (TolS w2 v k (LiveB r) wr)) (fun _ i _ => n - (intOf i).toNat)
    case atStart => exact ⟨0, by omega, rfl, HS0⟩
    case round =>
      clear HS0
      obtain ⟨k, hk, rfl, IS⟩ := hrel
      obtain ⟨Av, cv, hv⟩ := IS.out.shape
      subst hv
      by_cases hkn : k < n
      · have t1 : decide ((k : Int) < n) = true := by simp; omega
        have t2 : (k : Int) < n := by omega
        obtain ⟨c, hc⟩ : ∃ c, r.code[k]? = some c := ⟨_, List.getElem?_eq_getElem (by rw [HN.out]; exact hkn)⟩
        have HCK := Lib.hid hc
        clear hc
        obtain ⟨r0, r1, r2, r3, r4⟩ := blk5 (KR2.out.below IS.out.below KR2.out.lt)
        have y1 := (KR2.out.below IS.out.below KR2.out.lt).lt
        have HBr := Lib.hid (HB2.out.trans (IS.out.below.mono HB2.out.size))
        go_wp2_with fail
        (with_reducible refine (behind_any r _ _ k n P c T _ (HR.out.below HBr.out (Nat.le_refl _)) (HT.out.below IS.out.below).tb HCK.out HN.out HP.out hP4 HC.out.flow).mono ?_)
        rintro en w4 ⟨gl, rfl, hgl, hrb, hb4⟩
        have IS0 := Lib.hid (IS.out.keep hb4)
        have HRB := Lib.hid hrb.src
        clear hgl hrb hb4 IS r0 r1 r2 r3 r4 y1
        go_wp2_with fail
        (with_reducible refine (list_any _ P _ (bh (nextOf c k) T) _ HRB.out hP4).mono ?_)
        rintro en w3 ⟨u, p, rfl, ho, hpl, hset, hb3⟩
        have HST := Lib.hid (show IsSet p (LiveB r k) from row_live (e := e) (r := r) hset (fun q hq => bh_live HC.out (by rw [HN.out]; exact HL.out) HCK.out hq) (fun x hx => by have := hx.range HC.out; rw [HP.out] at this; exact this))
        have IS1 := Lib.hid (IS0.out.keep hb3)
        have HO := Lib.hid (own_mono ho IS0.out.below.size)
        obtain ⟨q, hq⟩ : ∃ q, p.length = q := ⟨_, rfl⟩
        obtain ⟨A1, c1, e1, _⟩ := own_shape ho
        subst e1
        rw [hq] at ho HO hpl ⊢
        have HQ := Lib.hid hq
        have HO2 := Lib.hid (own_alloc HO.out (.cells #[.slice A1 q c1] 23))
        have IS2 := Lib.hid (IS1.out.keep ((Below.refl _ _).alloc (Nat.le_refl _) (.cells #[.slice A1 q c1] 23)))
        have hz := IS1.out.below.size
        obtain ⟨vs, PP, hvs, hPP⟩ := IS2.out.open
        have HVS := Lib.hid hvs
        have HPP := Lib.hid hPP
        clear ho hset hb3 hq hvs hPP IS2 IS1
        go_wp2_with (at_builtin; refine append_at _ rfl (.tmp 21) (.tmp 27) 32 rfl w2.heap.size 23 (.slice none 0 0) 1 24 Try.underlying32 info_ints rfl (by omega) (.slice Av k cv) k vs rfl HVS.out (some ⟨w3.heap.size, 0, none⟩) 1 1 [.slice A1 q c1] rfl (Blk.srcAll (cs := #[.slice A1 q c1]) (Blk.newAt _ _ _ rfl) rfl) (one_slice _ _ _) (by unfold maxLen; omega) (by omega) (by simp; omega) ?_)
        rintro v' w' g1 g2 g3 _
        have IS3 := Lib.hid (TolS.push2 (u := .slice A1 q c1) (p := p) HVS.out HPP.out (by rw [HQ.out]; exact HO2.out) HST.out g1 g2)
        clear g1 g2 g3
        go_wp2
        exact ⟨⟨k + 1, by omega, by simp, IS3⟩, by simp [intOf]; omega⟩
      · have t1 : decide ((k : Int) < n) = false := by simp; omega
        have hkn2 : k = n := by omega
        subst hkn2
        go_wp2
        go_ret2
        exact .inr ⟨HC.out, _, rfl, IS.out.told.mono HB2.out.size, HB2.out.trans (IS.out.below.mono HB2.out.size)⟩
end Go.Proofs.Ytkfnnmdghibjbaa
