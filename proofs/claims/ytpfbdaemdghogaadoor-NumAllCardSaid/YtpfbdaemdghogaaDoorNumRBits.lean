/-
  The reference's bits: the zeros at a number's head, at its foot, and its ones, bit by bit, are the library's counts.
  Conditions: the number fits its type.
-/
import Derived.Test.YtpfbdaemdghogaaDoorNumRSmall
import Derived.Test.YtpfbdaemdghogaaDoorNumCl2
namespace Go.Bk.Num
open Go Go.Lib
theorem bitLenAux_zero : ∀ f, bitLenAux f 0 = 0
  | 0 => rfl
  | f + 1 => by simp [bitLenAux]
theorem bitLenAux_top : ∀ (k f y : Nat), k < f → 2 ^ k ≤ y → y < 2 ^ (k + 1) → bitLenAux f y = k + 1
  | 0, f + 1, y, _, h1, h2 => by
    obtain rfl : y = 1 := by simp at h1 h2; omega
    simp [bitLenAux, bitLenAux_zero]
  | k + 1, f + 1, y, hf, h1, h2 => by
    have hp : 2 ^ (k + 1) = 2 ^ k * 2 := Nat.pow_succ ..
    have hq : 2 ^ (k + 1 + 1) = 2 ^ (k + 1) * 2 := Nat.pow_succ ..
    have h0 : 0 < 2 ^ (k + 1) := Nat.pow_pos (by decide)
    rw [bitLenAux, if_neg (by omega), bitLenAux_top k f (y / 2) (by omega) (by omega) (by omega)]
    omega
theorem ctzFrom_pow : ∀ (k f : Nat), k < f → ctzFrom f (2 ^ k) = k
  | 0, f + 1, _ => by simp [ctzFrom]
  | k + 1, f + 1, h => by
    have hp : 2 ^ (k + 1) = 2 ^ k * 2 := Nat.pow_succ ..
    rw [ctzFrom, if_neg (by omega), hp, Nat.mul_div_cancel _ (by decide), ctzFrom_pow k f (by omega)]
    omega
theorem ctzFrom_add : ∀ (k f x : Nat), x < 2 ^ k → x ≠ 0 → ctzFrom f (x + 2 ^ k) = ctzFrom f x
  | 0, f, x, h, h0 => by simp at h; omega
  | k + 1, 0, x, h, h0 => rfl
  | k + 1, f + 1, x, h, h0 => by
    have hp : 2 ^ (k + 1) = 2 ^ k * 2 := Nat.pow_succ ..
    unfold ctzFrom
    by_cases ho : x % 2 = 1
    · rw [if_pos ho, if_pos (by omega)]
    · rw [if_neg ho, if_neg (by omega), show (x + 2 ^ (k + 1)) / 2 = x / 2 + 2 ^ k by omega, ctzFrom_add k f (x / 2) (by omega) (by omega)]
/-- the low k bits -/
theorem low_succ (a k : Nat) : a % 2 ^ (k + 1) = a % 2 ^ k + 2 ^ k * (a / 2 ^ k % 2) := by rw [Nat.pow_succ]; exact Nat.mod_mul
theorem ctz_lt {W x k : Nat} (h0 : x ≠ 0) (hx : x < 2 ^ k) (hk : k ≤ W) : ctz W x < W := by
  rw [ctz, if_neg h0]
  obtain ⟨m, _, hm⟩ := ctzFrom_spec W x (by omega) (Nat.lt_of_lt_of_le hx (Nat.pow_le_pow_right (by decide) hk))
  exact hm
theorem pop_succ (a k : Nat) : popAux (k + 1) a = popAux k a + a / 2 ^ k % 2 := by rw [popAux_add k 1]; simp [popAux]
end Go.Bk.Num
namespace Go.Proofs.YtpfbdaemdghogaaDoor
open Go.RowKit Go.Bk Go.Bk.Num
set_option linter.unusedVariables false
set_option linter.unusedSimpArgs false
def BiRel (W a : Nat) (fv tv mv i : Value) : Prop := ∃ k : Nat, k ≤ W ∧ i = .int .i64 k ∧ fv = .int .i64 ((W : Int) - (Lib.bitLen (a % 2 ^ k) : Nat)) ∧ tv = .int .i64 ((Lib.ctz W (a % 2 ^ k) : Nat) : Int) ∧ mv = .int .i64 ((Lib.popAux k a : Nat) : Int)
theorem bit_odd {a k : Nat} (ha : a < 18446744073709551616) (b : Bool) (h : decide (a / 2 ^ k % 2 = 1) = b) : (Go.bits .and .u64 ((a : Int) / 2 ^ k) 1 == 1) = b := by
  rw [show ((a : Int) / 2 ^ k) = ((a / 2 ^ k : Nat) : Int) by push_cast; rfl, show (1 : Int) = ((1 : Nat) : Int) from rfl, bits_and_u64_nat _ _ (Nat.lt_of_le_of_lt (Nat.div_le_self _ _) ha) (by decide), Nat.and_one_is_mod]
  rw [← h]
  have : a / 2 ^ k % 2 < 2 := Nat.mod_lt _ (by decide)
  by_cases hh : a / 2 ^ k % 2 = 1
  · simp [hh]
  · have h2 : a / 2 ^ k % 2 = 0 := by omega
    simp [h2]
set_option maxRecDepth 10000 in
set_option maxHeartbeats 2000000 in
theorem bits_any (k a W : Nat) (w : World) (hk : k < 3) (hW : (W = 64 ∧ a < 18446744073709551616) ∨ (W = 32 ∧ a < 4294967296)) : Calls Tryd.prog 37 #[.int .i64 k, .int .u64 a, .int .i64 W] w fun e w' => e = .returned (.int .u64 ((cntL W a).getD k 0)) ∧ Below w.heap.size w w' := by
  have HA := Lib.hid (show a < 18446744073709551616 by omega)
  have HP := Lib.hid (show a < 2 ^ W by rcases hW with ⟨rfl, h⟩ | ⟨rfl, h⟩ <;> simpa using h)
  have hW64 : W ≤ 64 := by omega
  have hW0 : 0 < W := by omega
  have HRN := Lib.hid (cnt_rng hW hk)
  clear hW
  go_enter Tryd.func37, Tryd.ntmps37
  go_wp2_with fail
  go_loop [7, 8, 9, 10] (fun fv tv mv i => BiRel W a fv tv mv i) (fun _ _ _ i => W + 1 - (intOf i).toNat)
  case atStart => exact ⟨0, by omega, rfl, by simp [Nat.mod_one, Lib.bitLen, bitLenAux_zero], by simp [Nat.mod_one, Lib.ctz], by simp [Lib.popAux]⟩
  case round =>
    obtain ⟨j, hj, rfl, rfl, rfl, rfl⟩ := hrel
    by_cases hlt : j < W
    · have hlt' : decide ((j : Int) < (W : Int)) = true := by simpa using hlt
      have HL := Lib.hid (low_succ a j)
      have HPS := Lib.hid (pop_succ a j)
      have HM := Lib.hid (show a % 2 ^ j < 2 ^ j from Nat.mod_lt _ (Nat.pow_pos (by decide)))
      have hbl : Lib.bitLen (a % 2 ^ j) ≤ 64 := bitLenAux_lt 64 _ 64 (Nat.lt_of_le_of_lt (Nat.mod_le _ _) HA.out)
      have hpl : Lib.popAux j a ≤ 64 := by have := popAux_le j a; omega
      by_cases hb : a / 2 ^ j % 2 = 1
      · have gb := bit_odd (k := j) HA.out true (by simpa using hb)
        have HB1 := Lib.hid (show Lib.bitLen (a % 2 ^ (j + 1)) = j + 1 by
          refine bitLenAux_top j 64 _ (by omega) ?_ ?_
          · rw [HL.out, hb]; omega
          · exact Nat.mod_lt _ (Nat.pow_pos (by decide)))
        have HP1 := Lib.hid (show Lib.popAux (j + 1) a = Lib.popAux j a + 1 by rw [HPS.out, hb])
        by_cases h0 : a % 2 ^ j = 0
        · have HC := Lib.hid (show Lib.ctz W (a % 2 ^ (j + 1)) = j by
            rw [HL.out, hb, h0, Lib.ctz, if_neg (by have : 0 < 2 ^ j := Nat.pow_pos (by decide); omega), Nat.mul_one, Nat.zero_add]
            exact ctzFrom_pow j W hlt)
          have gt : ((W : Int) == (W : Int)) = true := by simp
          rw [h0, show Lib.ctz W 0 = W by simp [Lib.ctz]]
          clear hb h0
          generalize Lib.bitLen 0 = f at hbl ⊢
          generalize Lib.popAux j a = m at hpl HP1 ⊢
          go_wp2
          refine ⟨⟨j + 1, by omega, by simp, ?_, ?_, ?_⟩, by simp [intOf]; omega⟩
          · rw [HB1.out]; congr 1; omega
          · rw [HC.out]
          · rw [HP1.out]; simp
        · have HC := Lib.hid (show Lib.ctz W (a % 2 ^ (j + 1)) = Lib.ctz W (a % 2 ^ j) by
            rw [HL.out, hb, Nat.mul_one, Lib.ctz, if_neg (by omega), Lib.ctz, if_neg h0]
            exact ctzFrom_add j W _ HM.out h0)
          have hcl := ctz_lt h0 HM.out (by omega : j ≤ W)
          clear hb h0
          generalize Lib.ctz W (a % 2 ^ j) = t at HC hcl ⊢
          have gt : ((t : Int) == (W : Int)) = false := by simp; omega
          generalize Lib.bitLen (a % 2 ^ j) = f at hbl ⊢
          generalize Lib.popAux j a = m at hpl HP1 ⊢
          go_wp2
          refine ⟨⟨j + 1, by omega, by simp, ?_, ?_, ?_⟩, by simp [intOf]; omega⟩
          · rw [HB1.out]; congr 1; omega
          · rw [HC.out]
          · rw [HP1.out]; simp
      · have gb := bit_odd (k := j) HA.out false (by simpa using hb)
        have HE := Lib.hid (show a % 2 ^ (j + 1) = a % 2 ^ j by rw [HL.out, show a / 2 ^ j % 2 = 0 by omega, Nat.mul_zero, Nat.add_zero])
        have HP1 := Lib.hid (show Lib.popAux (j + 1) a = Lib.popAux j a by rw [HPS.out]; omega)
        clear hb
        generalize Hf : Lib.bitLen (a % 2 ^ j) = f at hbl ⊢
        generalize Hm : Lib.popAux j a = m at hpl HP1 ⊢
        generalize Ht : Lib.ctz W (a % 2 ^ j) = t
        replace Hf := Lib.hid Hf
        replace Hm := Lib.hid Hm
        replace Ht := Lib.hid Ht
        go_wp2
        refine ⟨⟨j + 1, by omega, by simp, ?_, ?_, ?_⟩, by simp [intOf]; omega⟩
        · rw [HE.out, Hf.out]
        · rw [HE.out, Ht.out]
        · rw [HP1.out]
    · obtain rfl : j = W := by omega
      have hlt' : decide ((j : Int) < (j : Int)) = false := by simp
      rw [Nat.mod_eq_of_lt HP.out]
      obtain ⟨y, HY⟩ : ∃ y, (cntL j a).getD k 0 = y := ⟨_, rfl⟩
      have hy : 0 ≤ y ∧ y ≤ 64 := by rw [← HY]; exact HRN.out
      have hwr : IntKind.u64.wrap y = y := by rw [IntKind.wrap_u64]; omega
      have hcc := cnt_cell HY hk (Blk.new w 3 _)
      have hk2 : (k : Int) < 3 := by omega
      simp only [cntL, List.map_cons, List.map_nil, List.toArray] at hcc
      replace HY := Lib.hid HY
      generalize Lib.bitLen a = f at hcc ⊢
      generalize Lib.popAux j a = m at hcc ⊢
      generalize Lib.ctz j a = t at hcc ⊢
      go_wp2
      go_ret
      exact ⟨ret_int' HY.out.symm, (Below.refl _ _).alloc (Nat.le_refl _) _⟩
end Go.Proofs.YtpfbdaemdghogaaDoor
