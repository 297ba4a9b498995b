/-
  A quotient, times the divisor, and the rest are the number: the plain law of num.Eval's answers.
  Conditions: none.
-/
import Derived.Test.YtpfbdaemdghogaaDoorNumFit
namespace Go.Proofs.YtpfbdaemdghogaaDoor
open Go.RowKit Go.Bk Go.Bk.Num
set_option linter.unusedVariables false
set_option linter.unusedSimpArgs false

/-- what the statement asks of one row of operators -/
def RestOK (o0 o1 o2 o3 : Int) (u v : Nat) : Prop :=
  (v = 0 ∧ ∃ q r, evalV o0 [u, v] = (q, 33) ∧ evalV o1 [u, v] = (r, 33)) ∨
  (v ≠ 0 ∧ ∃ q, evalV o0 [u, v] = (q, 34) ∧ evalV o1 [u, v] = (0, 0)) ∨
  (v ≠ 0 ∧ ∃ q r p : Nat, q < 18446744073709551616 ∧ r < 18446744073709551616 ∧ p < 18446744073709551616 ∧ evalV o0 [u, v] = ((q : Int), 0) ∧ evalV o1 [u, v] = ((r : Int), 0) ∧ evalV o2 [q, v] = ((p : Int), 0) ∧ evalV o3 [p, r] = ((u : Int), 0))

theorem ev_two' {op a0 b0 c d : Int} (hg : grpOf op = some (a0, b0, c, d)) (hL : (sigL op).length = 2) (hc : c = 1 ∨ c = 3) (a b : Nat) (ha : fitsN d a = true) (hb : fitsN d b = true) : evalV op [a, b] = twoV c d (op - a0) a b := by
  rw [evalV, hg]
  simp only [List.length_cons, List.length_nil, List.all_cons, List.all_nil, ha, hb, hL]
  rcases hc with rfl | rfl <;> simp [kindV]

theorem divV_q {M least : Int} {a b : Nat} {x y : Int} (hb : b ≠ 0) (h : ¬ (y = -1 ∧ x = least)) : divV M least 0 a b x y = (x.tdiv y % M, 0) := by
  unfold divV; rw [if_neg hb, if_pos rfl, if_neg h]
theorem divV_o {M least : Int} {a b : Nat} {x y : Int} (hb : b ≠ 0) (h : y = -1 ∧ x = least) : divV M least 0 a b x y = (0, 34) := by
  unfold divV; rw [if_neg hb, if_pos rfl, if_pos h]
theorem divV_r {M least : Int} {a b : Nat} {x y : Int} (hb : b ≠ 0) : divV M least 2 a b x y = (x.tmod y % M, 0) := by
  unfold divV; rw [if_neg hb, if_neg (by decide), if_neg (by decide), if_pos rfl]
theorem divV_0 {M least k : Int} {a b : Nat} {x y : Int} (hb : b = 0) : divV M least k a b x y = (0, 33) := by
  unfold divV; rw [if_pos hb]
theorem tmod_neg1 (x : Int) : x.tmod (-1) = 0 := by rw [Int.tmod_neg, Int.tmod_one]
theorem wrap64_emod (z : Int) : wrap64 z % 18446744073709551616 = z % 18446744073709551616 := by unfold wrap64; omega
/-- a sum of a product and a rest, each taken within M -/
theorem back_mod {M q b r y x a : Int} (hb : b % M = y % M) (hx : q * y + r = x) (hxa : x % M = a % M) : ((q % M) * b % M + r % M) % M = a % M := by
  rw [← hxa, ← hx, ← Int.add_emod, Int.add_emod (q % M * b), Int.add_emod (q * y), Int.mul_emod (q % M), Int.emod_emod_of_dvd _ (Int.dvd_refl M), hb, ← Int.mul_emod]
theorem tdiv_back (x y : Int) : x.tdiv y * y + x.tmod y = x := by rw [Int.mul_comm]; exact Int.mul_tdiv_add_tmod x y
theorem ediv_back (x y : Int) : x / y * y + x % y = x := by rw [Int.mul_comm]; exact Int.mul_ediv_add_emod x y

theorem nat_mod (z : Int) {M : Int} (h : 0 < M) : ∃ n : Nat, (n : Int) = z % M ∧ (n : Int) < M := ⟨(z % M).toNat, by have := Int.emod_nonneg z (b := M) (by omega); omega, by have := Int.emod_nonneg z (b := M) (by omega); have := Int.emod_lt_of_pos z (b := M) (by omega); omega⟩
theorem mul64 (q v : Nat) : twoV 3 126 (126 - 124) q v = (((q : Int) * v) % 18446744073709551616, 0) := by rw [← IntKind.wrap_u64]; simp [twoV, ariL]
theorem add64 (p r : Nat) : twoV 3 126 (124 - 124) p r = (((p : Int) + r) % 18446744073709551616, 0) := by rw [← IntKind.wrap_u64]; simp [twoV, ariL]
theorem mul32 (q v : Nat) : twoV 3 127 (108 - 106) q v = (((q : Int) * v) % 4294967296, 0) := by rw [← IntKind.wrap_u32]; simp [twoV, ariL]
theorem add32 (p r : Nat) : twoV 3 127 (106 - 106) p r = (((p : Int) + r) % 4294967296, 0) := by rw [← IntKind.wrap_u32]; simp [twoV, ariL]
theorem restS64 (u v : Nat) (hu : u < 18446744073709551616) (hv : v < 18446744073709551616) : RestOK 127 129 126 124 u v := by
  have f := fun x => fits126 x
  have e0 := ev_two' (op := 127) (show grpOf 127 = some (124, 15, 3, 126) by decide +kernel) (by decide +kernel) (.inr rfl) u v (f _) (f _)
  have e1 := ev_two' (op := 129) (show grpOf 129 = some (124, 15, 3, 126) by decide +kernel) (by decide +kernel) (.inr rfl) u v (f _) (f _)
  have e2 := fun q => ev_two' (op := 126) (show grpOf 126 = some (124, 15, 3, 126) by decide +kernel) (by decide +kernel) (.inr rfl) q v (f _) (f _)
  have e3 := fun p r => ev_two' (op := 124) (show grpOf 124 = some (124, 15, 3, 126) by decide +kernel) (by decide +kernel) (.inr rfl) p r (f _) (f _)
  have t0 : twoV 3 126 (127 - 124) u v = divV 18446744073709551616 (-9223372036854775808) 0 u v (wrap64 u) (wrap64 v) := by simp [twoV]
  have t1 : twoV 3 126 (129 - 124) u v = divV 18446744073709551616 (-9223372036854775808) 2 u v (wrap64 u) (wrap64 v) := by simp [twoV]
  rw [t0] at e0; rw [t1] at e1
  unfold RestOK
  by_cases h0 : v = 0
  · exact .inl ⟨h0, 0, 0, by rw [e0]; exact divV_0 h0, by rw [e1]; exact divV_0 h0⟩
  · refine .inr ?_
    by_cases hover : wrap64 v = -1 ∧ wrap64 u = -9223372036854775808
    · refine .inl ⟨h0, 0, by rw [e0]; exact divV_o h0 hover, ?_⟩
      rw [e1, divV_r h0, hover.1, tmod_neg1, Int.zero_emod]
    · obtain ⟨q, hq, hq1⟩ := nat_mod ((wrap64 u).tdiv (wrap64 v)) (M := 18446744073709551616) (by omega)
      obtain ⟨r, hr, hr1⟩ := nat_mod ((wrap64 u).tmod (wrap64 v)) (M := 18446744073709551616) (by omega)
      obtain ⟨p, hp, hp1⟩ := nat_mod ((q : Int) * v) (M := 18446744073709551616) (by omega)
      have key : ((p : Int) + r) % 18446744073709551616 = (u : Int) % 18446744073709551616 := by
        rw [hp, hq, hr]
        exact back_mod (wrap64_emod v).symm (tdiv_back _ _) (wrap64_emod u)
      rw [divV_q h0 hover, ← hq] at e0
      rw [divV_r h0, ← hr] at e1
      clear t0 t1 hq hr hover
      refine .inr ⟨h0, q, r, p, by omega, by omega, by omega, e0, e1, ?_, ?_⟩
      · rw [e2]
        exact (mul64 q v).trans (by rw [← hp])
      · rw [e3]
        exact (add64 p r).trans (by rw [key, Int.emod_eq_of_lt (by omega) (by omega)])

theorem restU64 (u v : Nat) (hu : u < 18446744073709551616) (hv : v < 18446744073709551616) : RestOK 128 130 126 124 u v := by
  have f := fun x => fits126 x
  have e0 := ev_two' (op := 128) (show grpOf 128 = some (124, 15, 3, 126) by decide +kernel) (by decide +kernel) (.inr rfl) u v (f _) (f _)
  have e1 := ev_two' (op := 130) (show grpOf 130 = some (124, 15, 3, 126) by decide +kernel) (by decide +kernel) (.inr rfl) u v (f _) (f _)
  have e2 := fun q => ev_two' (op := 126) (show grpOf 126 = some (124, 15, 3, 126) by decide +kernel) (by decide +kernel) (.inr rfl) q v (f _) (f _)
  have e3 := fun p r => ev_two' (op := 124) (show grpOf 124 = some (124, 15, 3, 126) by decide +kernel) (by decide +kernel) (.inr rfl) p r (f _) (f _)
  have t0 : twoV 3 126 (128 - 124) u v = divV 18446744073709551616 (-9223372036854775808) 1 u v (wrap64 u) (wrap64 v) := by simp [twoV]
  have t1 : twoV 3 126 (130 - 124) u v = divV 18446744073709551616 (-9223372036854775808) 3 u v (wrap64 u) (wrap64 v) := by simp [twoV]
  rw [t0] at e0; rw [t1] at e1
  unfold RestOK
  by_cases h0 : v = 0
  · exact .inl ⟨h0, 0, 0, by rw [e0]; exact divV_0 h0, by rw [e1]; exact divV_0 h0⟩
  · have q1 := Nat.div_le_self u v
    have q2 := Nat.mod_le u v
    have q3 := Nat.div_mul_le_self u v
    have q4 := Nat.div_add_mod u v
    rw [Nat.mul_comm] at q4
    refine .inr (.inr ⟨h0, u / v, u % v, u / v * v, by omega, by omega, by omega, ?_, ?_, ?_, ?_⟩)
    · rw [e0]; simp [divV, h0]
    · rw [e1]; simp [divV, h0]
    · rw [e2]
      have : twoV 3 126 (126 - 124) (u / v) v = (IntKind.u64.wrap (((u / v * v : Nat)) : Int), 0) := by simp [twoV, ariL]
      rw [this, wrap_u64_nat (by omega)]
    · rw [e3]
      have : ∀ p r : Nat, twoV 3 126 (124 - 124) p r = (IntKind.u64.wrap ((p + r : Nat) : Int), 0) := fun p r => by simp [twoV, ariL]
      rw [this, q4, wrap_u64_nat (by omega)]

theorem restS32 (u v : Nat) (hu : u < 4294967296) (hv : v < 4294967296) : RestOK 109 111 108 106 u v := by
  have f := fun x h => @fits127 x h
  have g : grpOf 106 = some (106, 15, 3, 127) ∧ grpOf 108 = some (106, 15, 3, 127) ∧ grpOf 109 = some (106, 15, 3, 127) ∧ grpOf 111 = some (106, 15, 3, 127) := by decide +kernel
  have e0 := ev_two' (op := 109) g.2.2.1 (by decide +kernel) (.inr rfl) u v (f _ hu) (f _ hv)
  have e1 := ev_two' (op := 111) g.2.2.2 (by decide +kernel) (.inr rfl) u v (f _ hu) (f _ hv)
  have e2 := fun q hq => ev_two' (op := 108) g.2.1 (by decide +kernel) (.inr rfl) q v (f _ hq) (f _ hv)
  have e3 := fun p r hp hr => ev_two' (op := 106) g.1 (by decide +kernel) (.inr rfl) p r (f _ hp) (f _ hr)
  have t0 : twoV 3 127 (109 - 106) u v = divV 4294967296 (-2147483648) 0 u v (wrap32 u) (wrap32 v) := by simp [twoV]
  have t1 : twoV 3 127 (111 - 106) u v = divV 4294967296 (-2147483648) 2 u v (wrap32 u) (wrap32 v) := by simp [twoV]
  rw [t0] at e0; rw [t1] at e1
  unfold RestOK
  by_cases h0 : v = 0
  · exact .inl ⟨h0, 0, 0, by rw [e0]; exact divV_0 h0, by rw [e1]; exact divV_0 h0⟩
  · refine .inr ?_
    by_cases hover : wrap32 v = -1 ∧ wrap32 u = -2147483648
    · refine .inl ⟨h0, 0, by rw [e0]; exact divV_o h0 hover, ?_⟩
      rw [e1, divV_r h0, hover.1, tmod_neg1, Int.zero_emod]
    · obtain ⟨q, hq, hq1⟩ := nat_mod ((wrap32 u).tdiv (wrap32 v)) (M := 4294967296) (by omega)
      obtain ⟨r, hr, hr1⟩ := nat_mod ((wrap32 u).tmod (wrap32 v)) (M := 4294967296) (by omega)
      obtain ⟨p, hp, hp1⟩ := nat_mod ((q : Int) * v) (M := 4294967296) (by omega)
      have key : ((p : Int) + r) % 4294967296 = (u : Int) % 4294967296 := by
        rw [hp, hq, hr]
        exact back_mod (wrap32_mod v).symm (tdiv_back _ _) (wrap32_mod u)
      rw [divV_q h0 hover, ← hq] at e0
      rw [divV_r h0, ← hr] at e1
      clear t0 t1 hq hr hover
      refine .inr ⟨h0, q, r, p, by omega, by omega, by omega, e0, e1, ?_, ?_⟩
      · rw [e2 _ (by omega)]
        exact (mul32 q v).trans (by rw [← hp])
      · rw [e3 _ _ (by omega) (by omega)]
        exact (add32 p r).trans (by rw [key, Int.emod_eq_of_lt (by omega) (by omega)])

theorem restU32 (u v : Nat) (hu : u < 4294967296) (hv : v < 4294967296) : RestOK 110 112 108 106 u v := by
  have f := fun x h => @fits127 x h
  have g : grpOf 106 = some (106, 15, 3, 127) ∧ grpOf 108 = some (106, 15, 3, 127) ∧ grpOf 110 = some (106, 15, 3, 127) ∧ grpOf 112 = some (106, 15, 3, 127) := by decide +kernel
  have e0 := ev_two' (op := 110) g.2.2.1 (by decide +kernel) (.inr rfl) u v (f _ hu) (f _ hv)
  have e1 := ev_two' (op := 112) g.2.2.2 (by decide +kernel) (.inr rfl) u v (f _ hu) (f _ hv)
  have e2 := fun q hq => ev_two' (op := 108) g.2.1 (by decide +kernel) (.inr rfl) q v (f _ hq) (f _ hv)
  have e3 := fun p r hp hr => ev_two' (op := 106) g.1 (by decide +kernel) (.inr rfl) p r (f _ hp) (f _ hr)
  have t0 : twoV 3 127 (110 - 106) u v = divV 4294967296 (-2147483648) 1 u v (wrap32 u) (wrap32 v) := by simp [twoV]
  have t1 : twoV 3 127 (112 - 106) u v = divV 4294967296 (-2147483648) 3 u v (wrap32 u) (wrap32 v) := by simp [twoV]
  rw [t0] at e0; rw [t1] at e1
  unfold RestOK
  by_cases h0 : v = 0
  · exact .inl ⟨h0, 0, 0, by rw [e0]; exact divV_0 h0, by rw [e1]; exact divV_0 h0⟩
  · have q1 := Nat.div_le_self u v
    have q2 := Nat.mod_le u v
    have q3 := Nat.div_mul_le_self u v
    have q4 := Nat.div_add_mod u v
    rw [Nat.mul_comm] at q4
    have w32 : ∀ n : Nat, n < 4294967296 → IntKind.u32.wrap (n : Int) = n := fun n h => by rw [IntKind.wrap_u32]; omega
    refine .inr (.inr ⟨h0, u / v, u % v, u / v * v, by omega, by omega, by omega, ?_, ?_, ?_, ?_⟩)
    · rw [e0]; simp [divV, h0]
    · rw [e1]; simp [divV, h0]
    · rw [e2 _ (by omega)]
      have : twoV 3 127 (108 - 106) (u / v) v = (IntKind.u32.wrap (((u / v * v : Nat)) : Int), 0) := by simp [twoV, ariL]
      rw [this, w32 _ (by omega)]
    · rw [e3 _ _ (by omega) (by omega)]
      have : ∀ p r : Nat, twoV 3 127 (106 - 106) p r = (IntKind.u32.wrap ((p + r : Nat) : Int), 0) := fun p r => by simp [twoV, ariL]
      rw [this, q4, w32 _ (by omega)]
end Go.Proofs.YtpfbdaemdghogaaDoor
