/-
  What the reference's groups answers: the groups from a place on, or what is wrong.
  Conditions: the slice is within the row's own reach.
-/
import Derived.Test.YtlfbmpbnmakacaaWrites
namespace Go.Proofs.Ytlfbmpbnmakacaa
open Go.RowKit Go.Bk Go.Bk.Leb

theorem most_any (size : Int) (w : World) : Calls Try.prog 25 #[.int .i64 size] w fun e w' => e = .returned (.int .i64 (if size = 32 then 5 else if size = 64 then 10 else 0)) ∧ w = w' := by
  by_cases h1 : size = 32
  · subst h1
    go_enter Try.func25, Try.ntmps25
    go_wp2
    go_ret
    exact ⟨rfl, rfl⟩
  · by_cases h2 : size = 64
    · subst h2
      go_enter Try.func25, Try.ntmps25
      go_wp2
      go_ret
      exact ⟨rfl, rfl⟩
    · rw [if_neg h1, if_neg h2]
      have g1 : (size == 32) = false := by simp [h1]
      have g2 : (size == 64) = false := by simp [h2]
      clear h1 h2
      go_enter Try.func25, Try.ntmps25
      go_wp2
      go_ret
      exact ⟨rfl, rfl⟩

def low7 (l : List Nat) : List Nat := l.map (· % 128)

/-- what groups answers: the groups go on J times -/
def GrpPost (w : World) (n at_ M J : Nat) (init tail : List Nat) (e : Ending) (w' : World) : Prop :=
  (J = M ∧ e = .returned (.tuple #[.slice none 0 0, .int .i64 0, faultV 3 ((at_ + M - 1 : Nat) : Int)]) ∧ Below w.heap.size w w') ∨
  (J < M ∧ tail = [] ∧ e = .returned (.tuple #[.slice none 0 0, .int .i64 0, faultV 4 n]) ∧ Below w.heap.size w w') ∨
  (∃ c r v, J < M ∧ tail = c :: r ∧ e = .returned (.tuple #[v, .int .i64 ((at_ + J + 1 : Nat) : Int), faultV 0 0]) ∧ w'.ownsRow w.heap.size 5 1 v (J + 1) (bys (low7 (init ++ [c]))) ∧ Below w.heap.size w w')

def GrpRel (w : World) (at_ M J : Nat) (init : List Nat) (lv i : Value) (wr : World) : Prop :=
  ∃ k : Nat, k ≤ J ∧ k < M ∧ i = .int .i64 ((at_ : Int) + k) ∧ wr.ownsRow (w.heap.size + 1) 5 1 lv k (bys (low7 (init.take k))) ∧ Below (w.heap.size + 1) (w.alloc (.cells #[.int .i64 0, .int .i64 0, .int .i64 0] 28)) wr

theorem low7_snoc (a : List Nat) (c : Nat) : bys (low7 (a ++ [c])) = bys (low7 a) ++ [.int .u8 ((c % 128 : Nat) : Int)] := by
  simp [low7, bys]

theorem FB.both {w : World} {b : Nat} {x y z : Value} (h : FB w b x y z) : w.cell? ⟨b, 0, none⟩ = some x ∧ w.cell? ⟨b, 0 + 1, none⟩ = some y ∧ w.cell? ⟨b, 0 + 1 + 1, none⟩ = some z ∧
    w.frozen? ⟨b, 0, none⟩ = false ∧ w.frozen? ⟨b, 0 + 1, none⟩ = false ∧ w.frozen? ⟨b, 0 + 1 + 1, none⟩ = false :=
  ⟨h.cells.1, h.cells.2.1, h.cells.2.2, frozen_of_row w b 0 _ 28 h, frozen_of_row w b 1 _ 28 h, frozen_of_row w b 2 _ 28 h⟩

set_option maxRecDepth 100000 in
set_option maxHeartbeats 2000000 in
theorem groups_any (A : Option Addr) (n c at_ M J : Nat) (l init tail : List Nat) (w : World) (hs : Src w A n (bys l)) (hall : AllB l) (hn : n ≤ 140737488355328) (hat : at_ ≤ n) (hM1 : 1 ≤ M) (hM2 : M ≤ 10)
    (hd : l.drop at_ = init ++ tail) (hg : Goes init) (hJ : init.length = J) (hJM : J ≤ M) (ht : J = M ∨ tail = [] ∨ ∃ c r, tail = c :: r ∧ c < 128) :
    Calls Try.prog 26 #[.slice A n c, .int .i64 at_, .int .i64 M] w (GrpPost w n at_ M J init tail) := by
  have hl : l.length = n := by rw [← hs.1, bys_len]
  have hlen : n - at_ = J + tail.length := by
    have := congrArg List.length hd
    simp [hl] at this
    omega
  have HD := Lib.hid hd
  have HJ := Lib.hid hJ
  have HT := Lib.hid ht
  have HL := Lib.hid hl
  have HS := Lib.hid hs
  clear hd hJ ht hl hs
  go_enter Try.func26, Try.ntmps26
  go_wp2_with fail
  go_loopw [9, 10] (fun lv i wr => GrpRel w at_ M J init lv i wr) (fun _ i _ => (at_ + 11 : Nat) - (intOf i).toNat)
  case atStart => exact ⟨0, by omega, by omega, by simp, World.ownsRow_nil _ _ _ _, Below.refl _ _⟩
  case round =>
    obtain ⟨k, hk1, hk2, rfl, hown, hb⟩ := hrel
    have hF := (FB.new w (.int .i64 0) (.int .i64 0) (.int .i64 0)).below hb (by simp)
    obtain ⟨f1, f2, f3⟩ := hF.cells
    have fz : ∀ j, wr.frozen? ⟨w.heap.size, j, none⟩ = false := fun j => frozen_of_row wr w.heap.size j _ 28 hF
    have fz0 := fz 0
    have fz1 := fz (0 + 1)
    have fz2 := fz (0 + 1 + 1)
    have hsz : w.heap.size + 1 ≤ wr.heap.size := by have := hb.size; simpa using this
    have HW := Lib.hid (show Below w.heap.size w wr from ((Below.refl _ _).alloc (Nat.le_refl _) _).trans (hb.mono (by omega)))
    clear fz hF
    by_cases hkl : at_ + k < n
    · have hlk : at_ + k < l.length := by rw [HL.out]; exact hkl
      obtain ⟨b, o, rfl, hbo'⟩ := HS.out.addr (show 0 < n by omega)
      have hbo : b < w.heap.size + 1 := by omega
      have hc := (HS.out.below (HW.out) (Nat.le_refl _)).at_ hkl
      simp only [bys_get] at hc
      have hx256 := hall.get hlk
      have hxd : (init ++ tail)[k]? = some l[at_ + k] := by
        rw [← HD.out, List.getElem?_drop, List.getElem?_eq_getElem hlk]
      have HX := Lib.hid hxd
      clear hxd
      generalize l[at_ + k] = x at *
      have HO := Lib.hid hown
      clear hown
      by_cases hkJ : k < J
      · have hx128 : 128 ≤ x := by
          have h := HX.out
          rw [List.getElem?_append_left (by rw [HJ.out]; exact hkJ)] at h
          exact (hg x (List.mem_of_getElem? h)).1
        have HX2 := Lib.hid (show init.take (k + 1) = init.take k ++ [x] by
          have h := HX.out
          rw [List.getElem?_append_left (by rw [HJ.out]; exact hkJ)] at h
          rw [List.take_add_one, h]
          rfl)
        by_cases hlast : k + 1 = M
        · have gM : ((k : Int) + 1 == (M : Int)) = true := by simp; omega
          have hl1 : k + 1 ≤ M := by omega
          have hl2 : M ≤ k + 1 := by omega
          clear hlast
          go_wp2_with (at_builtin; refine append_own _ rfl _ _ 23 rfl (w.heap.size + 1) 5 _ 1 Try.underlying23 info5 rfl _ k _ rfl (HO.out.alloc _) (some ⟨wr.heap.size, 0, none⟩) 1 1 [_] rfl (src_one _ _ _) (one_int _ _) (by unfold maxLen; omega) (by omega) (by simp; omega) ?_)
          intro v1 w1 h1 h2
          obtain ⟨A1, c1, rfl, _⟩ := own_shape h1
          have HB1 := Lib.hid (show Below (w.heap.size + 1) (w.alloc (.cells #[.int .i64 0, .int .i64 0, .int .i64 0] 28)) w1 from (hb.alloc hsz _).trans h2)
          have HW1 := Lib.hid (show Below w.heap.size w w1 from ((Below.refl _ _).alloc (Nat.le_refl _) _).trans (HB1.out.mono (by omega)))
          have hc1 : w1.cell? ⟨b, o + (at_ + k), none⟩ = some (.int .u8 x) := (h2.cell (p := ⟨b, o + (at_ + k), none⟩) hbo).trans ((World.cell?_alloc_lt wr _ ⟨b, o + (at_ + k), none⟩ (by show b < _; omega)).trans hc)
          obtain ⟨g1, g2, g3, z1, z2, z3⟩ := FB.both ((FB.new w (.int .i64 0) (.int .i64 0) (.int .i64 0)).below HB1.out (by simp))
          have HO1 := Lib.hid h1
          clear h1 h2 hc f1 f2 f3 fz0 fz1 fz2 hb HO
          go_wp2_with fail
          refine bodyPost_ret (v := .tuple #[.slice none 0 0, .int .i64 0, faultV 3 ((at_ + M - 1 : Nat) : Int)]) ?_ rfl ?_
          · simp [results, Try.results26, go_sem, faultV, g1, g2, g3]
            omega
          · exact .inl ⟨by omega, rfl, ((HW1.out.setCell (by simp) _).setCell (by simp) _).setCell (by simp) _⟩
        · have gM : ((k : Int) + 1 == (M : Int)) = false := by simp; omega
          have hl1 : k + 1 < M := by omega
          clear hlast
          go_wp2_with (at_builtin; refine append_own _ rfl _ _ 23 rfl (w.heap.size + 1) 5 _ 1 Try.underlying23 info5 rfl _ k _ rfl (HO.out.alloc _) (some ⟨wr.heap.size, 0, none⟩) 1 1 [_] rfl (src_one _ _ _) (one_int _ _) (by unfold maxLen; omega) (by omega) (by simp; omega) ?_)
          intro v1 w1 h1 h2
          obtain ⟨A1, c1, rfl, _⟩ := own_shape h1
          have HB1 := Lib.hid (show Below (w.heap.size + 1) (w.alloc (.cells #[.int .i64 0, .int .i64 0, .int .i64 0] 28)) w1 from (hb.alloc hsz _).trans h2)
          have HW1 := Lib.hid (show Below w.heap.size w w1 from ((Below.refl _ _).alloc (Nat.le_refl _) _).trans (HB1.out.mono (by omega)))
          have hc1 : w1.cell? ⟨b, o + (at_ + k), none⟩ = some (.int .u8 x) := (h2.cell (p := ⟨b, o + (at_ + k), none⟩) hbo).trans ((World.cell?_alloc_lt wr _ ⟨b, o + (at_ + k), none⟩ (by show b < _; omega)).trans hc)
          obtain ⟨g1, g2, g3, z1, z2, z3⟩ := FB.both ((FB.new w (.int .i64 0) (.int .i64 0) (.int .i64 0)).below HB1.out (by simp))
          have HO1 := Lib.hid h1
          clear h1 h2 hc f1 f2 f3 fz0 fz1 fz2 hb HO
          go_wp2_with fail
          go_roundw
          case rel =>
            have hr : GrpRel w at_ M J init (.slice A1 (k + 1) c1) (.int .i64 ((at_ : Int) + k + 1)) w1 := ⟨k + 1, by omega, by omega, by go_num, by rw [HX2.out, low7_snoc]; exact HO1.out, HB1.out⟩
            first | exact hr | ((repeat apply Exists.intro); exact ⟨hr, rfl, rfl, rfl, rfl⟩)
          case measure => simp [intOf]; omega
      · have hkJ' : J ≤ k := by omega
        clear hkJ
        have hJk : J = k := by omega
        obtain ⟨x', r, htl, hx'⟩ : ∃ x' r, tail = x' :: r ∧ x' < 128 := by
          rcases HT.out with h | h | ⟨c', r, h1, h2⟩
          · omega
          · rw [h] at hlen
            simp at hlen
            omega
          · exact ⟨c', r, h1, h2⟩
        have hxx : x = x' := by
          have h := HX.out
          rw [htl, List.getElem?_append_right (by rw [HJ.out]; omega), HJ.out, hJk, Nat.sub_self] at h
          simpa using h.symm
        subst hxx
        have HTL := Lib.hid htl
        have HJK := Lib.hid hJk
        clear htl hJk
        go_wp2_with (at_builtin; refine append_own _ rfl _ _ 23 rfl (w.heap.size + 1) 5 _ 1 Try.underlying23 info5 rfl _ k _ rfl (HO.out.alloc _) (some ⟨wr.heap.size, 0, none⟩) 1 1 [_] rfl (src_one _ _ _) (one_int _ _) (by unfold maxLen; omega) (by omega) (by simp; omega) ?_)
        intro v1 w1 h1 h2
        obtain ⟨A1, c1, rfl, _⟩ := own_shape h1
        have HB1 := Lib.hid (show Below (w.heap.size + 1) (w.alloc (.cells #[.int .i64 0, .int .i64 0, .int .i64 0] 28)) w1 from (hb.alloc hsz _).trans h2)
        have HW1 := Lib.hid (show Below w.heap.size w w1 from ((Below.refl _ _).alloc (Nat.le_refl _) _).trans (HB1.out.mono (by omega)))
        have hc1 : w1.cell? ⟨b, o + (at_ + k), none⟩ = some (.int .u8 x) := (h2.cell (p := ⟨b, o + (at_ + k), none⟩) hbo).trans ((World.cell?_alloc_lt wr _ ⟨b, o + (at_ + k), none⟩ (by show b < _; omega)).trans hc)
        obtain ⟨g1, g2, g3, z1, z2, z3⟩ := FB.both ((FB.new w (.int .i64 0) (.int .i64 0) (.int .i64 0)).below HB1.out (by simp))
        have HO1 := Lib.hid h1
        clear h1 h2 hc f1 f2 f3 fz0 fz1 fz2 hb HO
        go_wp2_with fail
        refine bodyPost_ret (v := .tuple #[.slice A1 (k + 1) c1, .int .i64 ((at_ + J + 1 : Nat) : Int), faultV 0 0]) ?_ rfl ?_
        · simp [results, Try.results26, go_sem, faultV, g1, g2, g3]
          omega
        · refine .inr (.inr ⟨x, r, _, by omega, HTL.out, rfl, ?_, ((HW1.out.setCell (by simp) _).setCell (by simp) _).setCell (by simp) _⟩)
          have ho := HO1.out
          rw [show (x : Int) % 128 = ((x % 128 : Nat) : Int) from by omega, ← low7_snoc, List.take_of_length_le (by rw [HJ.out]; omega), ← HJK.out] at ho
          rw [← HJK.out]
          exact own_mono (ownsRow_setCell_below (ownsRow_setCell_below (ownsRow_setCell_below ho (Nat.lt_succ_self _) _) (Nat.lt_succ_self _) _) (Nat.lt_succ_self _) _) (Nat.le_succ _)
    · go_wp2_with fail
      refine bodyPost_ret (v := .tuple #[.slice none 0 0, .int .i64 0, faultV 4 n]) ?_ rfl ?_
      · simp [results, Try.results26, go_sem, faultV, f1, f2, f3]
      · refine .inr (.inl ⟨by omega, ?_, rfl, ((HW.out.setCell (by simp) _).setCell (by simp) _).setCell (by simp) _⟩)
        exact List.eq_nil_of_length_eq_zero (by omega)
end Go.Proofs.Ytlfbmpbnmakacaa
