/-
  The plain mathematics of layer 1: what the functions of numbers in groups compute, with no program in sight.
  Conditions: none.
-/
import GoSem.Claim
namespace Go.Bk.Leb

def lastU (n : Int) : Bool := n / 128 == 0
def lastS (n : Int) : Bool := n / 64 == 0 || n / 64 == -1

/-- the groups of a number: at most k more behind the first -/
def putG (last : Int → Bool) : Nat → Int → List Nat
  | 0, n => [(n % 128).toNat]
  | k + 1, n => if last n then [(n % 128).toNat] else ((n % 128).toNat + 128) :: putG last k (n / 128)

def putU (n : Int) : List Nat := putG lastU 9 n
def putS (n : Int) : List Nat := putG lastS 9 n

/-- the number fits into k groups more and one bit -/
def FitU (k : Nat) (n : Int) : Prop := 0 ≤ n ∧ n < 2 * 128 ^ k
def FitS (k : Nat) (n : Int) : Prop := - 128 ^ k ≤ n ∧ n < 128 ^ k

theorem FitU.step {k : Nat} {n : Int} (h : FitU k n) (hl : lastU n = false) : ∃ j, k = j + 1 ∧ FitU j (n / 128) := by
  cases k with
  | zero =>
    exfalso
    obtain ⟨h1, h2⟩ := h
    simp [lastU] at hl
    omega
  | succ j =>
    refine ⟨j, rfl, ?_⟩
    obtain ⟨h1, h2⟩ := h
    rw [Int.pow_succ] at h2
    unfold FitU
    generalize (128 : Int) ^ j = x at *
    omega

theorem FitS.step {k : Nat} {n : Int} (h : FitS k n) (hl : lastS n = false) : ∃ j, k = j + 1 ∧ FitS j (n / 128) := by
  cases k with
  | zero =>
    exfalso
    obtain ⟨h1, h2⟩ := h
    simp [lastS] at hl
    omega
  | succ j =>
    refine ⟨j, rfl, ?_⟩
    obtain ⟨h1, h2⟩ := h
    rw [Int.pow_succ] at h1 h2
    unfold FitS
    generalize (128 : Int) ^ j = x at *
    omega

theorem pow_mono128 {k : Nat} (h : k ≤ 9) : (128 : Int) ^ k ≤ 128 ^ 9 := by
  have : (128 : Nat) ^ k ≤ 128 ^ 9 := Nat.pow_le_pow_right (by omega) h
  exact_mod_cast this

theorem FitU.bound {k : Nat} {n : Int} (h : FitU k n) (hk : k ≤ 9) : 0 ≤ n ∧ n < 18446744073709551616 := by
  have := pow_mono128 hk
  obtain ⟨h1, h2⟩ := h
  generalize (128 : Int) ^ k = x at *
  omega

theorem FitS.bound {k : Nat} {n : Int} (h : FitS k n) (hk : k ≤ 9) : -9223372036854775808 ≤ n ∧ n < 9223372036854775808 := by
  have := pow_mono128 hk
  obtain ⟨h1, h2⟩ := h
  generalize (128 : Int) ^ k = x at *
  omega

theorem putG_stop {last : Int → Bool} {k : Nat} {n : Int} (h : last n = true) : putG last k n = [(n % 128).toNat] := by
  cases k <;> simp [putG, h]

theorem putG_go {last : Int → Bool} {k : Nat} {n : Int} (h : last n = false) : putG last (k + 1) n = ((n % 128).toNat + 128) :: putG last k (n / 128) := by
  simp [putG, h]

theorem natAbs_lt_U {n : Int} (h0 : 0 ≤ n) (h : lastU n = false) : (n / 128).natAbs < n.natAbs := by
  simp [lastU] at h
  omega
theorem natAbs_lt_S {n : Int} (h : lastS n = false) : (n / 128).natAbs < n.natAbs := by
  simp [lastS] at h
  omega

/-- what is read from a place on: may: is the last byte that may be right? m: its place; the list is what is left; i: how many bytes were read; n: their number. The answer: 0, the number, how many bytes; 3, 0, the place of the byte that is wrong; 4: a byte is missing. -/
def rd (may : Nat → Bool) (m : Nat) : List Nat → Nat → Nat → Nat × Nat × Nat
  | [], _, _ => (4, 0, 0)
  | c :: r, i, n =>
    if i = m then (if c < 128 ∧ may c = true then (0, n + c * 128 ^ i, i + 1) else (3, 0, i))
    else if c < 128 then (0, n + c * 128 ^ i, i + 1) else rd may m r (i + 1) (n + (c % 128) * 128 ^ i)

/-- may the last byte be so, of a number without a sign (32 bits: 4 of them are left, 64: 1) -/
def mayU (size : Nat) (c : Nat) : Bool := if size = 32 then c < 16 else c < 2
def mayS (size : Nat) (c : Nat) : Bool := if size = 32 then c < 8 || 120 ≤ c else c = 0 || c = 127
def most (size : Nat) : Nat := if size = 32 then 4 else 9

end Go.Bk.Leb
