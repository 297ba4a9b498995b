/-
  What num.Eval answers fits the type, and a total operator has no trap: the plain law.
  Conditions: none.
-/
import Derived.Test.YtpfbdaemdghogaaDoorNumTot
namespace Go.Proofs.YtpfbdaemdghogaaDoor
open Go.RowKit Go.Bk Go.Bk.Num
set_option linter.unusedVariables false
set_option linter.unusedSimpArgs false

/-- within W bits -/
def In64 (z : Int) : Prop := 0 ≤ z ∧ z < 18446744073709551616
def In32 (z : Int) : Prop := 0 ≤ z ∧ z < 4294967296
theorem In32.in64 {z : Int} (h : In32 z) : In64 z := ⟨h.1, by have := h.2; omega⟩
theorem in_b01 (b : Bool) : In32 (b01 b) := by cases b <;> simp [b01, In32]
theorem in_wrap (z : Int) : In64 (IntKind.u64.wrap z) := by unfold In64; rw [IntKind.wrap_u64]; omega
theorem in_mod (z : Int) : In32 (z % 4294967296) := by unfold In32; omega
theorem u64_bits_rng (o : BinOp) (x y : Int) : In64 (bits o .u64 x y) := by
  have h : ∃ z, bits o .u64 x y = IntKind.u64.wrap z := ⟨_, rfl⟩
  obtain ⟨z, hz⟩ := h
  rw [hz]
  exact in_wrap z
theorem ari64_rng (a b by_ : Nat) (x : Int) (ha : a < 18446744073709551616) (k : Nat) : In64 ((ariL .u64 64 a b by_ x).getD k 0) := by
  have h1 : (a : Int) / 2 ^ by_ = ((a / 2 ^ by_ : Nat) : Int) := by simp
  have h2 := Nat.div_le_self a (2 ^ by_)
  have h5 : 0 ≤ (a : Int) / 2 ^ by_ := Int.ediv_nonneg (by omega) (Int.le_of_lt (Int.pow_pos (by omega)))
  have hb := fun o x y => u64_bits_rng o x y
  have z0 : In64 0 := ⟨by omega, by omega⟩
  unfold ariL
  match k with
  | 0 => exact in_wrap _
  | 1 => exact in_wrap _
  | 2 => exact in_wrap _
  | 3 => exact z0
  | 4 => exact z0
  | 5 => exact z0
  | 6 => exact z0
  | 7 => simp only [List.getD_cons_zero, List.getD_cons_succ]; exact hb _ _ _
  | 8 => simp only [List.getD_cons_zero, List.getD_cons_succ]; exact hb _ _ _
  | 9 => simp only [List.getD_cons_zero, List.getD_cons_succ]; exact hb _ _ _
  | 10 => exact in_wrap _
  | 11 => exact in_wrap _
  | 12 => exact (show In64 ((a : Int) / 2 ^ by_) from ⟨h5, by rw [h1]; omega⟩)
  | 13 => simp only [List.getD_cons_zero, List.getD_cons_succ]; exact hb _ _ _
  | 14 => simp only [List.getD_cons_zero, List.getD_cons_succ]; exact hb _ _ _
  | k + 15 => exact z0
theorem div64_rng (k : Int) (a b : Nat) (x y : Int) (ha : a < 18446744073709551616) : In64 (divV 18446744073709551616 (-9223372036854775808) k a b x y).1 := by
  have h1 : (a : Int) / b = ((a / b : Nat) : Int) := by simp
  have h2 := Nat.div_le_self a b
  have h5 : 0 ≤ (a : Int) / b := Int.ediv_nonneg (by omega) (by omega)
  have h3 : (a : Int) % b = ((a % b : Nat) : Int) := by simp
  have h4 := Nat.mod_le a b
  unfold divV In64
  repeat' split
  all_goals (simp only; omega)
theorem divV_err (M least k : Int) (a b : Nat) (x y : Int) : (divV M least k a b x y).2 = 0 ∨ (divV M least k a b x y).2 = 33 ∨ (divV M least k a b x y).2 = 34 := by
  unfold divV
  repeat' split
  all_goals simp
/-- what an operator of two numbers answers -/
theorem twoV_rng (c d k : Int) (a b : Nat) (hd : d = 126 ∨ d = 127) (ha : a < 18446744073709551616) (h32 : d = 127 → a < 4294967296) :
    In64 (twoV c d k a b).1 ∧ (c = 1 → In32 (twoV c d k a b).1) ∧ (d = 127 → In32 (twoV c d k a b).1) ∧ ((twoV c d k a b).2 = 0 ∨ ((twoV c d k a b).2 ≠ 1 ∧ c ≠ 1 ∧ 3 ≤ k ∧ k ≤ 6)) := by
  have key : ∀ z : Int × Int, z.2 = 0 ∨ z.2 = 33 ∨ z.2 = 34 → z.2 = 0 ∨ z.2 ≠ 1 := fun z h => by omega
  rcases hd with rfl | rfl
  · unfold twoV
    rw [if_pos rfl]
    by_cases hc : c = 1
    · rw [if_pos hc]
      exact ⟨(in_b01 _).in64, fun _ => in_b01 _, fun h => absurd h (by decide), .inl rfl⟩
    · rw [if_neg hc]
      by_cases hk : 3 ≤ k ∧ k ≤ 6
      · rw [if_pos hk]
        refine ⟨div64_rng _ _ _ _ _ ha, fun h => absurd h hc, fun h => absurd h (by decide), ?_⟩
        rcases key _ (divV_err 18446744073709551616 (-9223372036854775808) (k - 3) a b (wrap64 a) (wrap64 b)) with h | h
        · exact .inl h
        · exact .inr ⟨h, hc, hk.1, hk.2⟩
      · rw [if_neg hk]
        exact ⟨ari64_rng _ _ _ _ ha _, fun h => absurd h hc, fun h => absurd h (by decide), .inl rfl⟩
  · have ha' := h32 rfl
    unfold twoV
    rw [if_neg (by decide)]
    by_cases hc : c = 1
    · rw [if_pos hc]
      exact ⟨(in_b01 _).in64, fun _ => in_b01 _, fun _ => in_b01 _, .inl rfl⟩
    · rw [if_neg hc]
      by_cases hk : 3 ≤ k ∧ k ≤ 6
      · rw [if_pos hk]
        have hr : In32 _ := div32_rng (k - 3) a b (wrap32 a) (wrap32 b) ha'
        refine ⟨hr.in64, fun h => absurd h hc, fun _ => hr, ?_⟩
        rcases key _ (divV_err 4294967296 (-2147483648) (k - 3) a b (wrap32 a) (wrap32 b)) with h | h
        · exact .inl h
        · exact .inr ⟨h, hc, hk.1, hk.2⟩
      · rw [if_neg hk]
        have hr : In32 _ := ari32_rng a b (b % 32) (wrap32 a) ha' k.toNat
        exact ⟨hr.in64, fun h => absurd h hc, fun _ => hr, .inl rfl⟩
theorem fits126 (z : Nat) : fitsN 126 z = true := by simp [fitsN]
theorem fits127 {z : Nat} (h : z < 4294967296) : fitsN 127 z = true := by simp [fitsN, h]
theorem wid_rng (k : Int) (x : Nat) (hx : x < 18446744073709551616) : In64 (widV k x) := by
  unfold widV
  split
  · exact in_wrap _
  · exact ⟨by omega, by omega⟩
theorem ext_rng (k out : Int) (x : Nat) : In64 (extV k out x) ∧ (out = 127 → In32 (extV k out x)) := by
  unfold extV
  split
  · exact ⟨(in_mod _).in64, fun _ => in_mod _⟩
  · exact ⟨in_wrap _, fun h => absurd h (by assumption)⟩
/-- a number of the row, or 0 -/
theorem getD64 {l : List Nat} (h : All64 l) (i : Nat) : l.getD i 0 < 18446744073709551616 := by
  rw [List.getD_eq_getElem?_getD]
  cases hx : l[i]? with
  | none => simp
  | some x => exact h x (List.mem_of_getElem? hx)
theorem getDfit {l : List Nat} {d : Int} (h : l.all (fitsN d) = true) (i : Nat) (hd : d = 127) : l.getD i 0 < 4294967296 := by
  subst hd
  rw [List.getD_eq_getElem?_getD]
  cases hx : l[i]? with
  | none => simp
  | some x =>
    have := List.all_eq_true.1 h x (List.mem_of_getElem? hx)
    simpa [fitsN] using this
theorem kind_rng {op a b c d : Int} {l : List Nat} (hg : grpOf op = some (a, b, c, d)) (h64 : All64 l) (hf : l.all (fitsN d) = true) :
    In64 (kindV c d (op - a) (sigO op) l).1 ∧ (sigO op = 127 → In32 (kindV c d (op - a) (sigO op) l).1) ∧ ((kindV c d (op - a) (sigO op) l).2 = 0 ∨ ((kindV c d (op - a) (sigO op) l).2 ≠ 1 ∧ totB op = false)) := by
  obtain ⟨hc, hd, _, hle, hlt, _, _⟩ := grp_kind hg
  obtain ⟨r0, r1, r2, r3, r4, r5, r6⟩ := grp_rng hg
  have hO : sigO op = if c = 0 ∨ c = 1 ∨ c = 4 then 127 else if c = 5 then 126 else d := by simp [sigO, hg]
  have hx := getD64 h64 0
  have hx32 := getDfit (i := 0) hf
  rcases hc with rfl | rfl | rfl | rfl | rfl | rfl | rfl
  · rw [kindV, if_pos rfl]
    exact ⟨(in_b01 _).in64, fun _ => in_b01 _, .inl rfl⟩
  · rw [kindV, if_neg (by decide), if_neg (by decide), if_neg (by decide), if_neg (by decide), if_neg (by decide)]
    obtain ⟨t1, t2, t3, t4⟩ := twoV_rng 1 d (op - a) (l.getD 0 0) (l.getD 1 0) hd hx hx32
    exact ⟨t1, fun _ => t2 rfl, t4.imp id (fun h => absurd rfl h.2.1)⟩
  · rw [kindV, if_neg (by decide), if_pos rfl]
    have hr := @cnt_rng (if d = 126 then 64 else 32) (l.getD 0 0) (op - a).toNat (by
      rcases hd with rfl | rfl
      · exact .inl ⟨rfl, hx⟩
      · exact .inr ⟨rfl, hx32 rfl⟩) (by have := r2 rfl; omega)
    have h32 : In32 _ := ⟨hr.1, by have := hr.2; omega⟩
    exact ⟨h32.in64, fun _ => h32, .inl rfl⟩
  · rw [kindV, if_neg (by decide), if_neg (by decide), if_neg (by decide), if_neg (by decide), if_neg (by decide)]
    obtain ⟨t1, t2, t3, t4⟩ := twoV_rng 3 d (op - a) (l.getD 0 0) (l.getD 1 0) hd hx hx32
    refine ⟨t1, fun h => t3 (by rw [hO] at h; simpa using h), t4.imp id (fun h => ⟨h.1, ?_⟩)⟩
    simp only [totB, hg, if_true, divB]
    simp
    exact ⟨h.2.2.1, h.2.2.2⟩
  · rw [kindV, if_neg (by decide), if_neg (by decide), if_pos rfl]
    exact ⟨(in_mod _).in64, fun _ => in_mod _, .inl rfl⟩
  · rw [kindV, if_neg (by decide), if_neg (by decide), if_neg (by decide), if_pos rfl]
    exact ⟨wid_rng _ _ hx, fun h => by rw [hO] at h; simp at h, .inl rfl⟩
  · rw [kindV, if_neg (by decide), if_neg (by decide), if_neg (by decide), if_neg (by decide), if_pos rfl]
    obtain ⟨e1, e2⟩ := ext_rng (op - a) (sigO op) (l.getD 0 0)
    exact ⟨e1, e2, .inl rfl⟩
end Go.Proofs.YtpfbdaemdghogaaDoor
