/-
  The visit of an instruction, walked.
  Conditions: the memory is as the search has it.
-/
import Derived.Test.YtkfnnmdghibjbaaLivRing1
namespace Go.Proofs.Ytkfnnmdghibjbaa
open Go.RowKit Go.Bk Go.Bk.Liv
set_option linter.unusedVariables false
set_option linter.unusedSimpArgs false

def ViPost (r : RowD) (base bR bS bK gS : Nat) (rv : Array Value) (st : List Int) (stk : Stk) (i : Nat) (w : World) (en : Ending) (w' : World) : Prop :=
  (st[i]? = some 0 ∧ ∃ v' vs', en = .returned (.bool false) ∧ RM w' base bR bS bK gS rv (st.set i 1) (stk ++ [(i, edges r i)]) v' vs' ∧ Below base w w') ∨
  (∃ x, st[i]? = some x ∧ x ≠ 0 ∧ en = .returned (.bool (x == 1)) ∧ w = w')

theorem st_cell {w : World} {gS : Nat} {st : List Int} (h : Blk w gS 3 (i64s st).toArray) {i : Nat} {x : Int} (hx : st[i]? = some x) : w.cell? ⟨gS, i, none⟩ = some (.int .i64 x) := by
  rw [h.cell]
  simp [i64s, hx]

set_option maxRecDepth 100000 in
set_option maxHeartbeats 4000000 in
theorem visit_any (r : RowD) (base bR bS bK gS : Nat) (rv : Array Value) (st : List Int) (stk : Stk) (v : Value) (vs : List Value) (i : Nat) (c : CodeD) (w0 w : World) (h : RM w base bR bS bK gS rv st stk v vs)
    (hr : RowV w0 (.agg rv) r) (hw0 : w0.heap.size ≤ base) (hb0 : Below base w0 w) (hi : r.code[i]? = some c) (hl : st.length = r.code.length) (hto : c.op = 274 → 0 < c.to.length) (hnx : (nextOf c i).length ≤ 66) (hsk : stk.length ≤ 4096) (hcl : r.code.length ≤ 4096) :
    Calls Try.prog 65 #[.int .i64 (i : Int), .pointer (some ⟨bS, 0, none⟩), .pointer (some ⟨bR, 0, none⟩), .pointer (some ⟨bK, 0, none⟩)] w (ViPost r base bR bS bK gS rv st stk i w) := by
  have hlt : i < r.code.length := (List.getElem?_eq_some_iff.1 hi).1
  obtain ⟨x, hx⟩ : ∃ x, st[i]? = some x := ⟨_, List.getElem?_eq_getElem (by omega)⟩
  have cS := h.s.cell 0
  simp at cS
  have cT := st_cell h.t hx
  have HX := Lib.hid hx
  have HH := Lib.hid h
  obtain ⟨n, hn⟩ : ∃ n, st.length = n := ⟨_, rfl⟩
  rw [hn] at cS
  have hin : i < n := by omega
  have hin2 : (i : Int) < (n : Int) := by omega
  have HN := Lib.hid hn
  have HL := Lib.hid hl
  clear h hx hn hl
  by_cases h0 : x = 0
  · subst h0
    have HR := Lib.hid hr
    obtain ⟨vp, vq, vr, vs', erv, h4, h5, h6, h7⟩ := hr
    injection erv with erv
    subst erv
    obtain ⟨Ap, cp, rfl⟩ := h4.shape
    obtain ⟨Aq, cq, rfl⟩ := h5.shape
    obtain ⟨Ar, cr, rfl⟩ := h6.shape
    obtain ⟨Ac, cc, rfl, _⟩ := h7.len
    obtain ⟨gb, go, p, q, t, rfl, hgb, c0, _⟩ := h7.code hi
    have c0 := (hb0.cell (p := ⟨gb, go + i * 5, none⟩) (by show gb < base; omega)).trans c0
    obtain ⟨r0, r1, r2, r3, r4⟩ := blk5 HH.out.r
    have hlt2 : (i : Int) < (r.code.length : Int) := by omega
    have n1 : bR ≠ gS := fun e => blk_ne HH.out.t HH.out.r (by decide) e.symm
    have n2 : gS ≠ bR := fun e => n1 e.symm
    have n3 : bS ≠ gS := fun e => blk_ne HH.out.t HH.out.s (by decide) e.symm
    have n4 : gS ≠ bS := fun e => n3 e.symm
    have n5 : gb ≠ gS := by have := HH.out.lT; omega
    have n6 : gS ≠ gb := fun e => n5 e.symm
    have s1 := HH.out.r.lt
    have s2 := HH.out.s.lt
    have s3 := HH.out.t.lt
    have s4 := HH.out.k.lt
    have s5 : gb < w.heap.size := by have := HH.out.base_lt; omega
    have z0 := frz HH.out.t i
    have n7 : bK ≠ gS := fun e => blk_ne HH.out.t HH.out.k (by decide) e.symm
    have n8 : gS ≠ bK := fun e => n7 e.symm
    have P1 := Lib.hid (HH.out.put i 1)
    obtain ⟨Av, cv, rfl, _⟩ := own_shape HH.out.own
    have cK := HH.out.k.cell 0
    simp at cK
    obtain ⟨m, hm⟩ : ∃ m, stk.length = m := ⟨_, rfl⟩
    rw [hm] at cK
    have hmk : m ≤ 4096 := by omega
    have HM := Lib.hid hm
    have nk := own_ne HH.out.own HH.out.k (show (23 : Nat) ≠ 32 by decide)
    rw [hm] at nk
    have NK := Lib.hid nk
    clear hm hsk nk
    have HB0 := Lib.hid hb0
    have HTO := Lib.hid hto
    have HNX := Lib.hid hnx
    have HI := Lib.hid hi
    clear h4 h5 h6 h7 hb0 hto hnx hi
    by_cases ht : c.op = 258
    · have ht' : (c.op != 258) = false := by simp [ht]
      have HE := Lib.hid (edges_tick HI.out ht)
      clear ht
      go_enter Try.func65, Try.ntmps65
      have P2 := Lib.hid (P1.out.grown ((Below.refl _ _).alloc (Nat.le_refl _) (.cells #[.int .i64 (i : Int)] 3)))
      have P3 := Lib.hid (P2.out.grown ((Below.refl _ _).alloc (Nat.le_refl _) (.cells #[.slice (some ⟨w.heap.size, 0, none⟩) 1 1] 23)))
      have B3 := Lib.hid (show Below base w _ from (((Below.refl base w).setCell (p := ⟨gS, i, none⟩) HH.out.lT (.int .i64 1)).alloc (by simp; exact HH.out.base_lt) (.cells #[.int .i64 (i : Int)] 3)).alloc (by simp; have := HH.out.base_lt; omega) (.cells #[.slice (some ⟨w.heap.size, 0, none⟩) 1 1] 23))
      have PU := Lib.hid (show EB (((w.setCell ⟨gS, i, none⟩ (.int .i64 1)).alloc (.cells #[.int .i64 (i : Int)] 3)).alloc (.cells #[.slice (some ⟨w.heap.size, 0, none⟩) 1 1] 23)) gS (.slice (some ⟨w.heap.size, 0, none⟩) 1 1) (ints' (i, edges r i)) by
        rw [HE.out]
        exact ⟨w.heap.size, 1, #[.int .i64 (i : Int)], rfl, (Blk.newAt (w.setCell ⟨gS, i, none⟩ (.int .i64 1)) _ _ (by simp)).alloc _, by omega, by simp [ints'], rfl⟩)
      go_wp2_with (at_builtin; refine append_at _ rfl (.tmp 29) (.tmp 31) 32 rfl base 23 (.slice none 0 0) 1 24 Try.underlying32 info_ints rfl (by omega) (.slice Av m cv) m vs rfl (by rw [← HM.out]; exact P3.out.own) (some ⟨w.heap.size + 1, 0, none⟩) 1 1 [.slice (some ⟨w.heap.size, 0, none⟩) 1 1] rfl (Blk.srcAll (cs := #[.slice (some ⟨w.heap.size, 0, none⟩) 1 1]) (Blk.newAt _ _ _ (by simp)) rfl) (by intro u hu; obtain rfl := List.mem_singleton.1 hu; rfl) (by unfold maxLen; omega) (by omega) (by have := P3.out.base_lt; exact this) ?_)
      rintro v1 w1 h1 h2 h3 _
      obtain ⟨A1, c1, hv1, _⟩ := own_shape h1
      subst hv1
      have hk1 := P3.out.k.grown h2 NK.out
      have k0 := hk1.cell 0
      simp at k0
      have kz := frz hk1 0
      have kl := hk1.lt
      have hu := PU
      have hp := P3.out.push (e := (i, edges r i)) hu.out (by rw [HM.out] at *; exact h2) (by rw [HM.out]; exact h1) (by rw [HM.out]; simpa using h3)

      have HP := Lib.hid hp
      have hbp := below_grown B3.out h2 (by have := P3.out.base_lt; exact this) (fun k hk => (P3.out.own.lt k (by rw [HM.out]; exact hk)).1)
      have HBP := Lib.hid (hbp.setCell (p := ⟨bK, 0, none⟩) P3.out.lK (.slice A1 (m + 1) c1))
      clear h1 h2 h3 hk1 hp hbp hu
      go_wp2
      go_ret
      exact .inl ⟨HX.out, _, _, rfl, HP.out, HBP.out⟩
    · have ht' : (c.op != 258) = true := by simp [ht]
      have HE := Lib.hid (edges_of HI.out ht)
      clear ht
      go_enter Try.func65, Try.ntmps65
      have P2 := Lib.hid (P1.out.grown ((Below.refl _ _).alloc (Nat.le_refl _) (.cells #[.int .i64 (i : Int)] 3)))
      have B2 := Lib.hid (show Below base w _ from ((Below.refl base w).setCell (p := ⟨gS, i, none⟩) HH.out.lT (.int .i64 1)).alloc (by simp; exact HH.out.base_lt) (.cells #[.int .i64 (i : Int)] 3))
      have L2 := Lib.hid (Blk.newAt (w.setCell ⟨gS, i, none⟩ (.int .i64 1)) (N := w.heap.size) 3 #[.int .i64 (i : Int)] (by simp))
      have HR2 := Lib.hid (HR.out.below (HB0.out.trans B2.out) hw0)
      have D0 := Lib.hid (show Below w.heap.size (w.setCell ⟨gS, i, none⟩ (.int .i64 1)) ((w.setCell ⟨gS, i, none⟩ (.int .i64 1)).alloc (.cells #[.int .i64 (i : Int)] 3)) from (Below.refl _ _).alloc (by simp) _)
      go_wp2_with fail
      refine (lnext_any r _ i c _ HR2.out HI.out HTO.out).mono ?_
      rintro en w2 ⟨vn, rfl, hvn, hb2⟩
      obtain ⟨An, cn, rfl⟩ := hvn.shape
      obtain ⟨A', c', e', hsn⟩ := hvn
      injection e' with e1 e2 e3
      subst e1
      subst e3
      have HSN := Lib.hid hsn
      have L3 := Lib.hid (L2.out.below hb2 L2.out.lt)
      have D2 := Lib.hid (D0.out.trans (hb2.mono (by simp)))
      have hz2 : w.heap.size ≤ w2.heap.size := by have := hb2.size; simp at this; omega
      have hnl := HNX.out
      obtain ⟨nx, hnx⟩ : ∃ nx, (nextOf c i).length = nx := ⟨_, rfl⟩
      rw [hnx] at hnl
      rw [hnx] at HSN ⊢
      have HNL := Lib.hid hnx
      clear hb2 hsn hnx
      go_wp2_with (at_builtin; refine append_own _ rfl (.tmp 24) (.tmp 27) 23 rfl w.heap.size 3 (.int .i64 0) 8 Try.underlying23 info_int rfl (.slice (some ⟨w.heap.size, 0, none⟩) 1 1) 1 [.int .i64 (i : Int)] rfl (Blk.own (n := 1) (cs := #[.int .i64 (i : Int)]) L3.out (Nat.le_refl _) rfl (by unfold maxLen; omega)) An nx cn (i64s (nextOf c i)) rfl HSN.out (i64s_one _) (by unfold maxLen; omega) (by omega) hz2 ?_)
      rintro v3 w3 h31 h32
      obtain ⟨A3, c3, hv3, _⟩ := own_shape h31
      subst hv3
      have D3 := Lib.hid (D2.out.trans h32)
      have P3 := Lib.hid (P1.out.grown (by simpa using D3.out))
      have hb3 : Below base w w3 := ((Below.refl base w).setCell (p := ⟨gS, i, none⟩) HH.out.lT (.int .i64 1)).trans (D3.out.mono HH.out.base_lt)
      have PE := Lib.hid (show EB w3 gS (.slice A3 (1 + nx) c3) (ints' (i, edges r i)) by
        rw [HE.out]
        have e : (1 + nx) = (ints' (i, nextOf c i)).length := by simp [ints', HNL.out]; omega
        rw [e]
        rw [e] at h31
        exact EB.of h31 HH.out.t.lt (by simp [ints']))
      have hz3 := D3.out.size
      simp at hz3
      have hz4 := P3.out.base_lt
      have cK3 := P3.out.k.cell 0
      simp at cK3
      rw [HM.out] at cK3
      have HB3 := Lib.hid hb3
      have P4 := Lib.hid (P3.out.grown ((Below.refl _ _).alloc (Nat.le_refl _) (.cells #[.slice A3 (1 + nx) c3] 23)))
      have B4 := Lib.hid (HB3.out.alloc hz4 (.cells #[.slice A3 (1 + nx) c3] 23))
      have PU := Lib.hid (PE.out.grown (World.grownBy_alloc w3 (.cells #[.slice A3 (1 + nx) c3] 23) none) (fun _ _ _ _ => by simp))
      clear h31 h32 hb3 cK
      go_wp2_with (at_builtin; refine append_at _ rfl (.tmp 29) (.tmp 31) 32 rfl base 23 (.slice none 0 0) 1 24 Try.underlying32 info_ints rfl (by omega) (.slice Av m cv) m vs rfl (by rw [← HM.out]; exact P4.out.own) (some ⟨w3.heap.size, 0, none⟩) 1 1 [.slice A3 (1 + nx) c3] rfl (Blk.srcAll (cs := #[.slice A3 (1 + nx) c3]) (Blk.newAt _ _ _ (by simp)) rfl) (by intro u hu; obtain rfl := List.mem_singleton.1 hu; rfl) (by unfold maxLen; omega) (by omega) (by have := P4.out.base_lt; exact this) ?_)
      rintro v1 w1 h1 h2 h3 _
      obtain ⟨A1, c1, hv1, _⟩ := own_shape h1
      subst hv1
      have hk1 := P4.out.k.grown h2 NK.out
      have k0 := hk1.cell 0
      simp at k0
      have kz := frz hk1 0
      have kl := hk1.lt
      have hu := PU
      have hp := P4.out.push (e := (i, edges r i)) hu.out (by rw [HM.out] at *; exact h2) (by rw [HM.out]; exact h1) (by rw [HM.out]; simpa using h3)

      have HP := Lib.hid hp
      have hbp := below_grown B4.out h2 (by have := P4.out.base_lt; exact this) (fun k hk => (P4.out.own.lt k (by rw [HM.out]; exact hk)).1)
      have HBP := Lib.hid (hbp.setCell (p := ⟨bK, 0, none⟩) P4.out.lK (.slice A1 (m + 1) c1))
      clear h1 h2 h3 hk1 hp hbp hu
      go_wp2
      go_ret
      exact .inl ⟨HX.out, _, _, rfl, HP.out, HBP.out⟩
  · have h0' : (x == 0) = false := by simpa using h0
    have HX0 := Lib.hid h0
    clear h0
    go_enter Try.func65, Try.ntmps65
    go_wp2
    go_ret
    exact .inr ⟨x, HX.out, HX0.out, rfl, rfl⟩
end Go.Proofs.Ytkfnnmdghibjbaa
