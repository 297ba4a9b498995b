/-
  NumCommutes: what the statement's function answers.
  Conditions: the library's two tables hold what their initialisers lay.
-/
import Derived.Test.YtpfbdaemdghogaaDoorNumCom
namespace Go.Proofs.YtpfbdaemdghogaaDoor
open Go.RowKit Go.Bk Go.Bk.Num
set_option linter.unusedVariables false
set_option linter.unusedSimpArgs false

theorem bits_comm_and (k : IntKind) (x y : Int) : bits .and k x y = bits .and k y x := by simp only [bits, BitVec.and_comm]
theorem bits_comm_or (k : IntKind) (x y : Int) : bits .or k x y = bits .or k y x := by simp only [bits, BitVec.or_comm]
theorem bits_comm_xor (k : IntKind) (x y : Int) : bits .xor k x y = bits .xor k y x := by simp only [bits, BitVec.xor_comm]
theorem beq_swap (a b : Int) : (a == b) = (b == a) := by rw [Bool.eq_iff_iff]; simp only [beq_iff_eq]; exact ⟨Eq.symm, Eq.symm⟩
theorem bne_swap (a b : Int) : (a != b) = (b != a) := by simp only [bne, beq_swap a b]

theorem two_comm {c d k : Int} (h : comK c k = true) (hk : 0 ≤ k) (hc : c = 1 ∨ c = 3) (a b : Nat) : twoV c d k a b = twoV c d k b a := by
  rcases hc with rfl | rfl
  · have h2 : k < 2 := by simpa [comK] using h
    have : k = 0 ∨ k = 1 := by omega
    rcases this with rfl | rfl
    · simp only [twoV, if_true, relL]
      split
      · show (b01 ((a : Int) == b), (0 : Int)) = (b01 ((b : Int) == a), 0); rw [beq_swap]
      · show (b01 ((a : Int) == b), (0 : Int)) = (b01 ((b : Int) == a), 0); rw [beq_swap]
    · simp only [twoV, if_true, relL]
      split
      · show (b01 ((a : Int) != b), (0 : Int)) = (b01 ((b : Int) != a), 0); rw [bne_swap]
      · show (b01 ((a : Int) != b), (0 : Int)) = (b01 ((b : Int) != a), 0); rw [bne_swap]
  · have h2 : k = 0 ∨ k = 2 ∨ (7 ≤ k ∧ k ≤ 9) := by simpa [comK] using h
    have : k = 0 ∨ k = 2 ∨ k = 7 ∨ k = 8 ∨ k = 9 := by omega
    rcases this with rfl | rfl | rfl | rfl | rfl
    · simp [twoV, ariL, Int.add_comm]
    · simp [twoV, ariL, Int.mul_comm]
    · simp [twoV, ariL, bits_comm_and _ (a : Int)]
    · simp [twoV, ariL, bits_comm_or _ (a : Int)]
    · simp [twoV, ariL, bits_comm_xor _ (a : Int)]
theorem ev_comm {op : Int} (h : comB op = true) (a b : Nat) : evalV op [a, b] = evalV op [b, a] := by
  revert h
  unfold comB
  cases hg : grpOf op with
  | none => simp
  | some g =>
    obtain ⟨a0, b0, c, d⟩ := g
    obtain ⟨_, _, _, hle, _, _, _⟩ := grp_kind hg
    simp only
    intro h
    have hc : c = 1 ∨ c = 3 := by
      unfold comK at h
      split at h
      · exact .inl (by assumption)
      · simp at h; exact .inr h.1
    have hall : [a, b].all (fitsN d) = [b, a].all (fitsN d) := by simp [Bool.and_comm]
    have ht := two_comm (d := d) h (by omega) hc a b
    have hk : ∀ x y : Nat, kindV c d (op - a0) (sigO op) [x, y] = twoV c d (op - a0) x y := fun x y => by rcases hc with rfl | rfl <;> simp [kindV]
    rw [evalV, evalV, hg]
    simp only [hall, hk, ht, List.length_cons, List.length_nil]

set_option maxRecDepth 100000 in
set_option maxHeartbeats 2000000 in
theorem NumCommutes_true (w : World) (hT : Tabs w) (op : Int) (hop : (Lit.int .i64 op).wf = true) (a : Int) (ha : (Lit.int .u64 a).wf = true) (b : Int) (hb : (Lit.int .u64 b).wf = true) :
    Calls Tryd.prog 8 #[.int .i64 op, .int .u64 a, .int .u64 b] w fun e w' => e = .returned (.bool true) ∧ Below w.heap.size w w' := by
  obtain ⟨ho1, ho2⟩ := i64_bounds hop
  obtain ⟨ha1, ha2⟩ := u64_bounds ha
  obtain ⟨x, rfl⟩ := Int.eq_ofNat_of_zero_le ha1
  obtain ⟨hb1, hb2⟩ := u64_bounds hb
  obtain ⟨y, rfl⟩ := Int.eq_ofNat_of_zero_le hb1
  have hx : x < 18446744073709551616 := by omega
  have hy : y < 18446744073709551616 := by omega
  obtain ⟨P, hP⟩ : ∃ P, evalV op [x, y] = P := ⟨_, rfl⟩
  obtain ⟨Q, hQ⟩ : ∃ Q, evalV op [y, x] = Q := ⟨_, rfl⟩
  obtain ⟨p1, p2⟩ := P
  obtain ⟨q1, q2⟩ := Q
  have key : comB op = false ∨ (comB op = true ∧ (p1 == q1) = true ∧ (p2 == q2) = true) := by
    cases h : comB op with
    | false => exact .inl rfl
    | true =>
      have := ev_comm h x y
      rw [hP, hQ] at this
      injection this with e1 e2
      exact .inr ⟨rfl, by simp [e1], by simp [e2]⟩
  have E1 := Lib.hid hP
  have E2 := Lib.hid hQ
  have HT := Lib.hid hT
  have b0 := Lib.hid (show Below w.heap.size w (w.alloc (.cells #[.int .u64 (x : Int), .int .u64 (y : Int)] 23)) from (Below.refl _ _).alloc (Nat.le_refl _) _)
  have HT0 := Lib.hid (hT.below b0.out hT.2.2)
  clear hT ha hb ha1 ha2 hb1 hb2 hP hQ hop
  rcases key with hc | ⟨hc, g1, g2⟩
  all_goals
    have HC := Lib.hid hc
    clear hc
    go_enter Tryd.func8, Tryd.ntmps8
    go_wp2_with fail
    refine (Eval_any op _ 2 2 [x, y] _ ho1 ho2 (src2 rfl x y) (all2 hx hy) HT0.out).mono ?_
    rintro e w1 ⟨rfl, hb1⟩
    rw [E1.out]
    have HB1 := Lib.hid (b0.out.trans (hb1.mono (by simp)))
    clear hb1
    have HT1 := Lib.hid (HT.out.below HB1.out HT.out.2.2)
    have b1 := Lib.hid (show Below w1.heap.size w1 (w1.alloc (.cells #[.int .u64 (y : Int), .int .u64 (x : Int)] 23)) from (Below.refl _ _).alloc (Nat.le_refl _) _)
    go_wp2_with fail
    refine (Eval_any op _ 2 2 [y, x] _ ho1 ho2 (src2 rfl y x) (all2 hy hx) (HT1.out.below b1.out HT1.out.2.2)).mono ?_
    rintro e w2 ⟨rfl, hb2⟩
    rw [E2.out]
    have HB2 := Lib.hid (HB1.out.trans ((b1.out.trans (hb2.mono (by simp))).mono HB1.out.size))
    clear hb2
    go_wp2_with fail
    refine (Commutes_any op _ ho1 ho2).mono ?_
    rintro e w3 ⟨rfl, hb3⟩
    rw [HC.out]
    have HB3 := Lib.hid (HB2.out.trans (hb3.mono HB2.out.size))
    clear hb3
    have HT3 := Lib.hid (HT.out.below HB3.out HT.out.2.2)
    go_wp2_with fail
    refine (alive_any _ HT3.out).mono ?_
    rintro e w4 ⟨rfl, hb4⟩
    have HB4 := Lib.hid (HB3.out.trans (hb4.mono HB3.out.size))
    clear hb4
    go_wp2
    go_ret
    exact ⟨rfl, HB4.out⟩
end Go.Proofs.YtpfbdaemdghogaaDoor
