/-
  What the reference's Load answers: the same.
  Conditions: the slice is within the row's own reach.
-/
import Derived.Test.YtbopbipbbaempaaRAcc
namespace Go.Proofs.Ytbopbipbbaempaa
open Go.RowKit Go.Bk Go.Bk.Mem Go.Shelf

theorem or256 {q y k : Nat} (hy : y < 256) (hk : k ≤ 7) (hq : q < 256 ^ k) : bits .or .u64 (q : Int) (IntKind.u64.wrap ((y : Int) * 2 ^ (8 * k))) = ((q + y * 256 ^ k : Nat) : Int) := by
  have h1 : 256 ^ k ≤ 256 ^ 7 := Nat.pow_le_pow_right (by omega) hk
  have h2 : y * 256 ^ k ≤ 255 * 256 ^ k := Nat.mul_le_mul_right _ (by omega)
  have e256 : (256 : Nat) ^ k = 2 ^ (8 * k) := by rw [Nat.pow_mul]
  have e : (y : Int) * 2 ^ (8 * k) = ((y * 256 ^ k : Nat) : Int) := by
    rw [Int.natCast_mul, e256, Int.natCast_pow]; rfl
  rw [e, wrap_u64_nat (by omega), bits_or_u64 (by omega) (by omega)]
  refine congrArg Int.ofNat ?_
  rw [e256] at hq ⊢
  rw [← Nat.shiftLeft_eq, Nat.or_comm, ← Nat.shiftLeft_add_eq_or_of_lt hq]
  omega
theorem leN_snoc : ∀ (l : List Nat) (b : Nat), leN (l ++ [b]) = leN l + b * 256 ^ l.length
  | [], b => by simp [leN]
  | x :: l, b => by
    simp only [List.cons_append, leN, leN_snoc l b, List.length_cons, Nat.pow_succ]
    have : b * (256 ^ l.length * 256) = 256 * (b * 256 ^ l.length) := by rw [← Nat.mul_assoc, Nat.mul_comm]
    omega

theorem and_one {a : Nat} (h : a < 18446744073709551616) : bits .and .u64 (a : Int) 1 = ((a % 2 : Nat) : Int) := by
  rw [show (1 : Int) = ((1 : Nat) : Int) from rfl, bits_and_u64_nat a 1 h (by omega)]
  exact congrArg Int.ofNat (Nat.and_one_is_mod a)
theorem and_32 {a : Nat} (h : a < 18446744073709551616) : bits .and .u64 (a : Int) 4294967295 = ((a % 4294967296 : Nat) : Int) := by
  rw [show (4294967295 : Int) = ((2 ^ 32 - 1 : Nat) : Int) from rfl, bits_and_u64_nat a (2 ^ 32 - 1) h (by decide)]
  exact congrArg Int.ofNat (Nat.and_two_pow_sub_one_eq_mod a 32)
theorem top_bit {q j : Nat} (hj : 1 ≤ j) (hj8 : j ≤ 8) (hq : q < 256 ^ j) : (bits .and .u64 ((q : Int) / 2 ^ (8 * j - 1)) 1 == 1) = decide (2 ^ (8 * j - 1) ≤ q) := by
  have e : (q : Int) / 2 ^ (8 * j - 1) = ((q / 2 ^ (8 * j - 1) : Nat) : Int) := by simp
  have h2 : 256 ^ j = 2 * 2 ^ (8 * j - 1) := by rw [show (256 : Nat) = 2 ^ 8 from rfl, ← Nat.pow_mul, ← Nat.pow_succ']; congr 1; omega
  have h8 : 256 ^ j ≤ 256 ^ 8 := Nat.pow_le_pow_right (by omega) hj8
  have hp : 0 < 2 ^ (8 * j - 1) := Nat.two_pow_pos _
  have hd : q / 2 ^ (8 * j - 1) < 2 := by rw [Nat.div_lt_iff_lt_mul hp]; omega
  rw [e, and_one (by omega), Nat.mod_eq_of_lt hd, Bool.eq_iff_iff]
  have := Nat.le_div_iff_mul_le hp (x := 1) (y := q)
  simp
  omega
theorem sxV_eq {q j : Nat} (hj : j = 1 ∨ j = 2 ∨ j = 4 ∨ j = 8) (hq : q < 256 ^ j) : sxV j q = ((if 2 ^ (8 * j - 1) ≤ q then q + 18446744073709551616 - 256 ^ j else q : Nat) : Int) := by
  rcases hj with rfl | rfl | rfl | rfl <;> simp only [sxV, IntKind.wrap_u64, wrap64] <;> split <;> simp at * <;> omega

theorem or_pow {x t : Nat} (hx : x < 2 ^ t) (ht : t < 64) : bits .or .u64 (x : Int) (IntKind.u64.wrap (2 ^ t)) = ((x + 2 ^ t : Nat) : Int) := by
  have h1 : (2 : Nat) ^ t ≤ 2 ^ 63 := Nat.pow_le_pow_right (by omega) (by omega)
  rw [show ((2 : Int) ^ t) = ((2 ^ t : Nat) : Int) from by simp, wrap_u64_nat (by omega), bits_or_u64 (by omega) (by omega)]
  refine congrArg Int.ofNat ?_
  have := Nat.two_pow_add_eq_or_of_lt hx 1
  rw [Nat.mul_one] at this
  rw [Nat.or_comm, ← this]
  omega
theorem pow_256 (j : Nat) : 256 ^ j = 2 ^ (8 * j) := by rw [show (256 : Nat) = 2 ^ 8 from rfl, ← Nat.pow_mul]

/-- the sign is carried on up to bit t -/
def SxRel (q j : Nat) (nv i : Value) : Prop := ∃ t : Nat, 8 * j ≤ t ∧ t ≤ 64 ∧ i = .int .i64 t ∧ nv = .int .u64 ((q + 2 ^ t - 256 ^ j : Nat) : Int)

/-- i bytes are gathered -/
def GotRel (part : List Nat) (wn : Nat) (nv i : Value) : Prop := ∃ k : Nat, k ≤ wn ∧ i = .int .i64 k ∧ nv = .int .u64 (leN (part.take k) : Nat)

set_option maxRecDepth 100000 in
set_option maxHeartbeats 4000000 in
theorem rload_ok (b o n c addr off wn : Nat) (op k : Int) (sg : Bool) (m : List Nat) (w : World) (hacc : acc op = some (k, (wn : Int), false, sg)) (hn : n ≤ 140737488355328)
    (ha : addr ≤ 4294967295) (ho : off ≤ 4294967295) (hml : m.length = n) (hB : AllB m) (hat : addr + off + wn ≤ n) (hI : ∀ j (h : j < m.length), w.cell? ⟨b, o + j, none⟩ = some (.int .u8 ((m[j] : Nat) : Int))) :
    Calls Try.prog 11 #[.slice (some ⟨b, o, none⟩) n c, .int .i64 op, .int .u64 addr, .int .u64 off] w fun e w' =>
      e = .returned (.tuple #[.int .u64 (tellV k wn sg (leN ((m.drop (addr + off)).take wn))), .int .i64 0]) ∧ Below w.heap.size w w' := by
  obtain ⟨hk, hwd, _, _⟩ := acc_bounds hacc
  have hw1 : 1 ≤ wn := by omega
  have hw8 : wn ≤ 8 := by omega
  have HT := Lib.hid (show accTuple op = .tuple #[.int .i64 k, .int .i64 wn, .bool false, .bool true] by simp [accTuple, hacc])
  have HA := Lib.hid hacc
  have HI := Lib.hid hI
  have HM := Lib.hid hml
  have HB := Lib.hid hB
  have HWD := Lib.hid hwd
  have hins : insB n (addr + off) wn = true := by simp [insB]; omega
  clear hacc hI hml hB hwd hk
  have g1 : decide (4294967295 < (addr : Int)) = false := by simp; omega
  have g2 : decide (4294967295 < (off : Int)) = false := by simp; omega
  go_enter Try.func11, Try.ntmps11
  go_wp2_with fail
  refine (refAccess_any _ _).mono ?_
  rintro e w1 ⟨rfl, rfl⟩
  rw [HT.out]
  go_wp2_with fail
  refine (refInside_any _ n c (addr + off) wn _ hn).mono ?_
  rintro e w1 ⟨rfl, rfl⟩
  rw [hins]
  go_wp2_with fail
  go_loop [14, 15] (fun nv i => GotRel ((m.drop (addr + off)).take wn) wn nv i) (fun _ i => wn + 1 - (intOf i).toNat)
  case atStart => exact ⟨0, by omega, rfl, rfl⟩
  case round =>
    obtain ⟨j, hj, rfl, rfl⟩ := hrel
    by_cases hlt : j < wn
    · have hce := HI.out (addr + off + j) (by rw [HM.out]; omega)
      have hby := HB.out.get (k := addr + off + j) (by rw [HM.out]; omega)
      have hlt' : decide ((j : Int) < (wn : Int)) = true := by simpa using hlt
      obtain ⟨y, hy⟩ : ∃ y, m[addr + off + j]'(by rw [HM.out]; omega) = y := ⟨_, rfl⟩
      rw [hy] at hce hby
      have HY := Lib.hid hy
      obtain ⟨q, hq⟩ : ∃ q, leN (((m.drop (addr + off)).take wn).take j) = q := ⟨_, rfl⟩
      rw [hq]
      have HQ := Lib.hid hq
      clear hy hq
      go_wp2
      refine ⟨⟨j + 1, by omega, by simp, ?_⟩, by simp [intOf]; omega⟩
      have hjl : j < ((m.drop (addr + off)).take wn).length := by simp [HM.out]; omega
      have hlen : (((m.drop (addr + off)).take wn).take j).length = j := by simp [HM.out]; omega
      have hq' : q < 256 ^ j := by
        have := leN_lt (((m.drop (addr + off)).take wn).take j) (fun x hx => HB.out x (List.mem_of_mem_drop (List.mem_of_mem_take (List.mem_of_mem_take hx))))
        rw [hlen] at this
        rw [← HQ.out]
        exact this
      rw [or256 hby (by omega) hq', List.take_succ_eq_append_getElem hjl, leN_snoc, hlen, HQ.out]
      simp [HY.out]
    · obtain rfl : j = wn := by omega
      rw [List.take_take, Nat.min_self]
      have hq := leN_lt ((m.drop (addr + off)).take j) (fun x hx => HB.out x (List.mem_of_mem_drop (List.mem_of_mem_take hx)))
      rw [show ((m.drop (addr + off)).take j).length = j from by simp [HM.out]; omega] at hq
      revert hq
      generalize HQ : leN ((m.drop (addr + off)).take j) = q
      intro hq
      replace HQ := Lib.hid HQ
      have hw' : j = 1 ∨ j = 2 ∨ j = 4 ∨ j = 8 := by have := HWD.out; omega
      have htop := top_bit hw1 hw8 hq
      have hsx := Lib.hid (sxV_eq hw' hq)
      have HW' := Lib.hid hw'
      clear hw'
      go_wp2_with fail
      refine (signed_any HA.out _).mono ?_
      rintro e w1 ⟨rfl, rfl⟩
      have fin : ∀ (v : Int) (tm : Array Value), tm.getD 8 undef = .int .u64 v → tm.getD 9 undef = .int .i64 0 → v = tellV k j sg q →
          bodyPost Try.prog Try.f11 (fun e w' => e = .returned (.tuple #[.int .u64 (tellV k j sg (leN ((m.drop (addr + off)).take j))), .int .i64 0]) ∧ Below w.heap.size w w') Exit.ret { tmps := tm, defers := [] } w := by
        intro v tm e8 e9 hv
        refine bodyPost_ret (results_tmp2 (t := 8) (u := 9) rfl _ _ _) rfl ⟨?_, Below.refl _ _⟩
        rw [HQ.out, ← hv]
        show Ending.returned (.tuple #[tm.getD 8 undef, tm.getD 9 undef]) = _
        rw [e8, e9]
      have hq64 : q < 18446744073709551616 := Nat.lt_of_lt_of_le hq (Nat.pow_le_pow_right (n := 256) (by omega) hw8)
      have H32 := Lib.hid (and_32 hq64)
      cases sg with
      | true =>
        by_cases ht : 2 ^ (8 * j - 1) ≤ q
        · rw [decide_eq_true ht] at htop
          have HTQ := Lib.hid ht
          have HQ6 := Lib.hid hq
          clear ht hq
          go_wp2
          go_loop [14, 16] (fun nv i => SxRel q j nv i) (fun _ i => 65 - (intOf i).toNat)
          case atStart => exact ⟨8 * j, Nat.le_refl _, by omega, by simp, by rw [pow_256]; simp⟩
          case round =>
            obtain ⟨t, ht1, ht2, rfl, rfl⟩ := hrel
            by_cases hlt : t < 64
            · have hlt' : decide ((t : Int) < 64) = true := by simp; omega
              generalize HX : q + 2 ^ t - 256 ^ j = x
              replace HX := Lib.hid HX
              go_wp2
              have hp : 2 ^ (8 * j) ≤ 2 ^ t := Nat.pow_le_pow_right (by omega) ht1
              have hq := HQ6.out
              rw [pow_256] at hq
              refine ⟨⟨t + 1, by omega, by omega, by simp, ?_⟩, by simp [intOf]; omega⟩
              have hx : x < 2 ^ t := by rw [← HX.out, pow_256]; omega
              rw [or_pow hx hlt, ← HX.out, pow_256, Nat.pow_succ]
              refine congrArg (fun z : Nat => Value.int .u64 (z : Int)) ?_
              omega
            · obtain rfl : t = 64 := by omega
              generalize HX : q + 2 ^ 64 - 256 ^ j = x
              replace HX := Lib.hid HX
              have hx : x < 18446744073709551616 := by
                have := HQ6.out
                have := HX.out
                omega
              have HX2 := Lib.hid (show x = q + 18446744073709551616 - 256 ^ j from HX.out.symm)
              go_wp2
              · refine fin _ _ rfl rfl ?_
                rw [and_32 hx, tellV, if_pos rfl, hsx.out, if_pos HTQ.out, cutV, if_pos (eq_of_beq ‹(k == 127) = true›), HX2.out]
                rfl
              · refine fin _ _ rfl rfl ?_
                rw [tellV, if_pos rfl, hsx.out, if_pos HTQ.out, cutV, if_neg (ne_of_beq_false ‹(k == 127) = false›), HX2.out]
        · rw [decide_eq_false ht] at htop
          have HTQ := Lib.hid ht
          have HQ6 := Lib.hid hq
          clear ht hq
          go_wp2
          · refine fin _ _ rfl rfl ?_
            rw [H32.out, tellV, if_pos rfl, hsx.out, if_neg HTQ.out, cutV, if_pos (eq_of_beq ‹(k == 127) = true›)]
            rfl
          · refine fin _ _ rfl rfl ?_
            rw [tellV, if_pos rfl, hsx.out, if_neg HTQ.out, cutV, if_neg (ne_of_beq_false ‹(k == 127) = false›)]
      | false =>
        clear htop
        go_wp2
        · refine fin _ _ rfl rfl ?_
          rw [H32.out, tellV, if_neg (by decide), cutV, if_pos (eq_of_beq ‹(k == 127) = true›)]
          rfl
        · refine fin _ _ rfl rfl ?_
          rw [tellV, if_neg (by decide), cutV, if_neg (ne_of_beq_false ‹(k == 127) = false›)]

set_option maxRecDepth 100000 in
set_option maxHeartbeats 4000000 in
theorem refLoad_any (A : Option Addr) (n c addr off : Nat) (op : Int) (m : List Nat) (w : World) (hs : Bk.Src w A n (bys m)) (hB : AllB m) (hn : n ≤ 140737488355328) :
    Calls Try.prog 11 #[.slice A n c, .int .i64 op, .int .u64 addr, .int .u64 off] w fun e w' => e = .returned (.tuple #[.int .u64 (loadV m op addr off).1, .int .i64 (loadV m op addr off).2]) ∧ Below w.heap.size w w' := by
  have hm : m.length = n := by have := hs.1; rwa [bys_len] at this
  cases hacc : acc op with
  | none =>
    have HV := Lib.hid (show loadV m op addr off = (0, 1) by simp [loadV, hacc])
    have HT := Lib.hid (show accTuple op = .tuple #[.int .i64 0, .int .i64 0, .bool false, .bool false] by simp [accTuple, hacc])
    clear hacc hs hm
    go_enter Try.func11, Try.ntmps11
    go_wp2_with fail
    refine (refAccess_any _ _).mono ?_
    rintro e w1 ⟨rfl, rfl⟩
    rw [HT.out]
    go_wp2
    go_ret2
    rw [HV.out]
    exact ⟨rfl, Below.refl _ _⟩
  | some r =>
    obtain ⟨k, wd, st, sg⟩ := r
    obtain ⟨hk, hwd, _, _⟩ := acc_bounds hacc
    obtain ⟨wn, rfl⟩ := Int.eq_ofNat_of_zero_le (show 0 ≤ wd by omega)
    have HT := Lib.hid (show accTuple op = .tuple #[.int .i64 k, .int .i64 wn, .bool st, .bool true] by simp [accTuple, hacc])
    cases st with
    | true =>
      have HV := Lib.hid (show loadV m op addr off = (0, 1) by simp [loadV, hacc])
      clear hacc hs hm
      go_enter Try.func11, Try.ntmps11
      go_wp2_with fail
      refine (refAccess_any _ _).mono ?_
      rintro e w1 ⟨rfl, rfl⟩
      rw [HT.out]
      go_wp2
      go_ret2
      rw [HV.out]
      exact ⟨rfl, Below.refl _ _⟩
    | false =>
      by_cases h32 : 4294967295 < addr ∨ 4294967295 < off
      · have HV := Lib.hid (show loadV m op addr off = (0, 1) by simp [loadV, hacc, placeV, h32])
        clear hacc hs hm
        by_cases h1 : 4294967295 < addr
        · have g1 : decide (4294967295 < (addr : Int)) = true := by simp; omega
          clear h32
          go_enter Try.func11, Try.ntmps11
          go_wp2_with fail
          refine (refAccess_any _ _).mono ?_
          rintro e w1 ⟨rfl, rfl⟩
          rw [HT.out]
          go_wp2
          go_ret2
          rw [HV.out]
          exact ⟨rfl, Below.refl _ _⟩
        · have g1 : decide (4294967295 < (addr : Int)) = false := by simp; omega
          have g2 : decide (4294967295 < (off : Int)) = true := by simp; omega
          clear h32
          go_enter Try.func11, Try.ntmps11
          go_wp2_with fail
          refine (refAccess_any _ _).mono ?_
          rintro e w1 ⟨rfl, rfl⟩
          rw [HT.out]
          go_wp2
          go_ret2
          rw [HV.out]
          exact ⟨rfl, Below.refl _ _⟩
      · by_cases hi : insB n (addr + off) wn = true
        · have hp : (placeV m.length wn addr off).2 = 0 := by simp [placeV, h32, hm, hi]
          obtain ⟨hp1, hp2, ha, ho⟩ := placeV_ok hp
          rw [hm, Int.toNat_natCast] at hp2
          obtain ⟨b, o, rfl, hlt, hc⟩ := hs.2 (by omega)
          refine (rload_ok b o n c addr off wn op k sg m w hacc hn ha ho hm hB hp2 (fun j hj => hc j _ (by simp [bys, hj]))).mono ?_
          rintro e w' ⟨rfl, hb⟩
          refine ⟨?_, hb⟩
          simp [loadV, hacc, hp]
        · have hi' : insB n (addr + off) wn = false := by simpa using hi
          have HV := Lib.hid (show loadV m op addr off = (0, 35) by simp [loadV, hacc, placeV, h32, hm, hi'])
          clear hacc hs hm hi
          have g1 : decide (4294967295 < (addr : Int)) = false := by simp; omega
          have g2 : decide (4294967295 < (off : Int)) = false := by simp; omega
          have ha : addr ≤ 4294967295 := by omega
          have ho : off ≤ 4294967295 := by omega
          clear h32
          go_enter Try.func11, Try.ntmps11
          go_wp2_with fail
          refine (refAccess_any _ _).mono ?_
          rintro e w1 ⟨rfl, rfl⟩
          rw [HT.out]
          go_wp2_with fail
          refine (refInside_any _ n c (addr + off) wn _ hn).mono ?_
          rintro e w1 ⟨rfl, rfl⟩
          rw [hi']
          go_wp2
          go_ret2
          rw [HV.out]
          exact ⟨rfl, Below.refl _ _⟩
end Go.Proofs.Ytbopbipbbaempaa
