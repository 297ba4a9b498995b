/-
  What is read, told by how the bytes go on: plain facts for the references' U and S.
  Conditions: none.
-/
import Derived.Test.YtlfbmpbnmakacaaGroups
namespace Go.Proofs.Ytlfbmpbnmakacaa
open Go.RowKit Go.Bk Go.Bk.Leb

theorem rd_long (may : Nat → Bool) (m : Nat) (tail : List Nat) : ∀ (init : List Nat) (i q : Nat), Goes init → i ≤ m → i + init.length = m + 1 → rd may m (init ++ tail) i q = (3, 0, m)
  | [], i, q, _, hi, h => by simp at h; omega
  | x :: r, i, q, hg, hi, h => by
    have hx := hg x (by simp)
    simp only [List.length_cons] at h
    rcases Nat.lt_or_ge i m with hlt | hge
    · rw [List.cons_append, rd_more hlt (by omega)]
      exact rd_long may m tail r (i + 1) _ (fun y hy => hg y (by simp [hy])) (by omega) (by omega)
    · obtain rfl : i = m := by omega
      rw [List.cons_append, rd_last_no (by omega)]

/-- every rest goes on so often, at most M times -/
theorem goes_split : ∀ (M : Nat) (l : List Nat), AllB l → ∃ init tail, l = init ++ tail ∧ Goes init ∧ init.length ≤ M ∧ (init.length = M ∨ tail = [] ∨ ∃ c r, tail = c :: r ∧ c < 128)
  | 0, l, _ => ⟨[], l, rfl, fun _ h => by simp at h, by simp, .inl rfl⟩
  | M + 1, [], _ => ⟨[], [], rfl, fun _ h => by simp at h, by simp, .inr (.inl rfl)⟩
  | M + 1, c :: l, hall => by
    by_cases hc : c < 128
    · exact ⟨[], c :: l, rfl, fun _ h => by simp at h, by simp, .inr (.inr ⟨c, l, rfl, hc⟩)⟩
    · obtain ⟨init, tail, h1, h2, h3, h4⟩ := goes_split M l (fun x hx => hall x (by simp [hx]))
      refine ⟨c :: init, tail, by rw [h1]; rfl, ?_, by simp; omega, ?_⟩
      · intro x hx
        rcases List.mem_cons.1 hx with rfl | hx
        · exact ⟨by omega, hall x (by simp)⟩
        · exact h2 x hx
      · simpa using h4

section
variable (k : IntKind) (may : Nat → Nat → Bool) (val : Nat → Nat → Int) (l init tail : List Nat) (at_ n size J : Nat)
theorem readV_bad (hs : size = 32 ∨ size = 64) (hl : l.length = n) (hat : at_ ≤ n) (hd : l.drop at_ = init ++ tail) (hg : Goes init) (hJ : init.length = most size + 1) :
    readV k may val l at_ size = .tuple #[.int k 0, .int .i64 0, faultV 3 ((at_ + most size : Nat) : Int)] := by
  unfold readV
  rw [if_neg (by rw [hl]; omega), Int.toNat_natCast, Int.toNat_natCast, hd, rd_long (may size) (most size) tail init 0 0 hg (Nat.zero_le _) (by omega)]
  rfl
theorem readV_end (hs : size = 32 ∨ size = 64) (hl : l.length = n) (hat : at_ ≤ n) (hd : l.drop at_ = init) (hg : Goes init) (hJ : init.length ≤ most size) :
    readV k may val l at_ size = .tuple #[.int k 0, .int .i64 0, faultV 4 n] := by
  unfold readV
  rw [if_neg (by rw [hl]; omega), Int.toNat_natCast, Int.toNat_natCast, hd, rd_missing (may size) (most size) init 0 0 hg (by omega), hl]
  rfl
theorem readV_ok (c : Nat) (r : List Nat) (hs : size = 32 ∨ size = 64) (hl : l.length = n) (hat : at_ ≤ n) (hd : l.drop at_ = init ++ c :: r) (hg : Goes init) (hc : c < 128) (hJ : init.length = J) (hm : J < most size ∨ J = most size ∧ may size c = true) :
    readV k may val l at_ size = .tuple #[.int k (val (uval (init ++ [c])) (J + 1)), .int .i64 ((at_ + J + 1 : Nat) : Int), faultV 0 0] := by
  unfold readV
  rw [if_neg (by rw [hl]; omega), Int.toNat_natCast, Int.toNat_natCast, hd, rd_groups (may size) (most size) c r hc init 0 0 hg (Nat.zero_le _), if_pos (by rw [hJ, Nat.zero_add]; exact hm), hJ]
  simp [rdV, Nat.add_assoc]
theorem readV_no (c : Nat) (r : List Nat) (hs : size = 32 ∨ size = 64) (hl : l.length = n) (hat : at_ ≤ n) (hd : l.drop at_ = init ++ c :: r) (hg : Goes init) (hc : c < 128) (hJ : init.length = J) (hm : J = most size) (hno : may size c = false) :
    readV k may val l at_ size = .tuple #[.int k 0, .int .i64 0, faultV 3 ((at_ + J : Nat) : Int)] := by
  unfold readV
  rw [if_neg (by rw [hl]; omega), Int.toNat_natCast, Int.toNat_natCast, hd, rd_groups (may size) (most size) c r hc init 0 0 hg (Nat.zero_le _), if_neg (by rw [hJ, hno]; simp; omega)]
  simp [rdV, hm]
end

theorem uval_snoc (a : List Nat) (c : Nat) : uval (a ++ [c]) = uval a + (c % 128) * 128 ^ a.length := by
  rw [uval_app]
  simp [uval, Nat.mul_comm]

/-- what is gathered behind k groups -/
def gath (L : List Nat) (k : Nat) : Nat := uval (L.take k)
theorem gath_lt (L : List Nat) {k : Nat} (hk : k ≤ L.length) : gath L k < 128 ^ k := by
  have := uval_lt (L.take k)
  rw [List.length_take, Nat.min_eq_left hk] at this
  exact this
theorem gath_next (L : List Nat) {k : Nat} (hk : k < L.length) : gath L (k + 1) = gath L k + (L[k] % 128) * 128 ^ k := by
  unfold gath
  rw [List.take_succ_eq_append_getElem hk, uval_snoc, List.length_take, Nat.min_eq_left (by omega)]
theorem gath_all (L : List Nat) : gath L L.length = uval L := by
  unfold gath
  rw [List.take_length]

end Go.Proofs.Ytlfbmpbnmakacaa
