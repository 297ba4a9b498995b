/-
  What the references' PutU and PutS answer, what leb.Size answers, and the statement LebWrites: numbers are put behind any bytes as the document says, in as few groups as Size tells.
  Conditions: the slice is within the row's own reach.
-/
import Derived.Test.YtlfbmpbnmakacaaOwn
import Derived.Test.YtlfbmpbnmakacaaShelf
namespace Go.Proofs.Ytlfbmpbnmakacaa
open Go.RowKit Go.Bk Go.Bk.Leb

theorem one_int (k : IntKind) (x : Int) : ∀ u ∈ [Value.int k x], u.oneCell' = true := by
  intro u hu
  obtain rfl := List.mem_singleton.1 hu
  rfl

theorem and127_u64 (q : Int) : bits .and .u64 q 127 = q % 128 := by
  show IntKind.u64.wrap ((BitVec.ofInt 64 q &&& BitVec.ofInt 64 127).toNat : Int) = _
  rw [BitVec.toNat_and, show (BitVec.ofInt 64 127).toNat = 2 ^ 7 - 1 from rfl, Nat.and_two_pow_sub_one_eq_mod, BitVec.toNat_ofInt, IntKind.wrap_u64]
  omega
theorem and127_i64 (q : Int) : bits .and .i64 q 127 = q % 128 := by
  show IntKind.i64.wrap ((BitVec.ofInt 64 q &&& BitVec.ofInt 64 127).toNat : Int) = _
  rw [BitVec.toNat_and, show (BitVec.ofInt 64 127).toNat = 2 ^ 7 - 1 from rfl, Nat.and_two_pow_sub_one_eq_mod, BitVec.toNat_ofInt, IntKind.wrap_i64]
  omega

set_option maxHeartbeats 1600000 in
theorem refPutU_any (A : Option Addr) (n c : Nat) (l : List Nat) (m : Int) (w : World) (hs : Src w A n (bys l)) (hn : n ≤ 140737488355300) (hfit : FitU 9 m) :
    Calls Try.prog 18 #[.slice A n c, .int .u64 m] w fun e w' => ∃ v, e = .returned v ∧ w'.ownsRow w.heap.size 5 1 v (l ++ putU m).length (bys (l ++ putU m)) ∧ Below w.heap.size w w' := by
  have hl : l.length = n := by rw [← hs.1, bys_len]
  have HL := Lib.hid hl
  clear hl
  have HS := Lib.hid hs
  clear hs
  go_enter Try.func18, Try.ntmps18
  go_wp2_with (at_builtin; refine append_copy _ rfl _ (.tmp 6) 23 rfl 5 _ 1 Try.underlying23 info5 rfl rfl A n c _ rfl HS.out (bys_one _) (by unfold maxLen; omega) (by omega) ?_)
  intro v w1 hown hb
  go_wp2_with fail
  go_loopw [1, 5] (fun nv out wr => ∃ (k : Nat) (d : List Nat) (q : Int), k ≤ 9 ∧ d.length + k ≤ 9 ∧ FitU k q ∧ nv = .int .u64 q ∧ wr.ownsRow w.heap.size 5 1 out (n + d.length) (bys (l ++ d)) ∧ Below w.heap.size w wr ∧ Hid (d ++ putG lastU k q = putU m)) (fun nv _ _ => (intOf nv).natAbs)
  case atStart => exact ⟨9, [], m, by omega, by simp, hfit, rfl, by simpa using hown, hb, rfl⟩
  case round =>
    clear hown hb
    obtain ⟨k, d, q, hk, hd, hq, rfl, hown1, hb1, HD⟩ := hrel
    obtain ⟨hq0, hq1⟩ := hq.bound hk
    have hsz := hb1.size
    by_cases hlt : 127 < q
    · have HLa := Lib.hid (show lastU q = false by simp [lastU]; omega)
      go_wp2_with (at_builtin; refine append_src _ rfl _ _ 23 rfl w.heap.size 5 _ 1 Try.underlying23 info5 rfl _ (n + d.length) (bys (l ++ d)) rfl (hown1.alloc _) (some ⟨wr.heap.size, 0, none⟩) 1 1 [_] rfl (src_one _ _ _) (one_int _ _) (by unfold maxLen; omega) (by omega) (by simp; omega) ?_)
      · intro v' w3 h1 h2
        obtain ⟨h3, h4⟩ := put_more (q := q) (by rw [and127_u64]; omega) hown1 hb1 h1 h2
        clear h1 h2 hown1 hb1
        obtain ⟨j, hj, hf⟩ := hq.step HLa.out
        have HJ := Lib.hid hj
        clear hj
        go_wp2
        go_roundw
        case rel =>
          refine ⟨j, d ++ [(q % 128).toNat + 128], q / 128, by have := HJ.out; omega, by have := HJ.out; simp; omega, hf, rfl, h3, h4, ?_⟩
          have e := HD.out
          rw [HJ.out, putG_go HLa.out] at e
          unfold Hid
          rw [← e]
          simp
        case measure => exact natAbs_lt_U hq0 HLa.out
    · have HLa := Lib.hid (show lastU q = true by simp [lastU]; omega)
      go_wp2_with (at_builtin; refine append_src _ rfl _ _ 23 rfl w.heap.size 5 _ 1 Try.underlying23 info5 rfl _ (n + d.length) (bys (l ++ d)) rfl (hown1.alloc _) (some ⟨wr.heap.size, 0, none⟩) 1 1 [_] rfl (src_one _ _ _) (one_int _ _) (by unfold maxLen; omega) (by omega) (by simp; omega) ?_)
      · intro v' w3 h1 h2
        have e := HD.out
        rw [putG_stop HLa.out] at e
        obtain ⟨h3, h4⟩ := put_end (q := q) (by skip; omega) e HL.out hown1 hb1 h1 h2
        clear h1 h2 hown1 hb1 e
        go_wp2
        go_ret
        exact ⟨_, rfl, h3, h4⟩


set_option maxHeartbeats 1600000 in
theorem refPutS_any (A : Option Addr) (n c : Nat) (l : List Nat) (m : Int) (w : World) (hs : Src w A n (bys l)) (hn : n ≤ 140737488355300) (hfit : FitS 9 m) :
    Calls Try.prog 19 #[.slice A n c, .int .i64 m] w fun e w' => ∃ v, e = .returned v ∧ w'.ownsRow w.heap.size 5 1 v (l ++ putS m).length (bys (l ++ putS m)) ∧ Below w.heap.size w w' := by
  have hl : l.length = n := by rw [← hs.1, bys_len]
  have HL := Lib.hid hl
  clear hl
  have HS := Lib.hid hs
  clear hs
  go_enter Try.func19, Try.ntmps19
  go_wp2_with (at_builtin; refine append_copy _ rfl _ (.tmp 6) 23 rfl 5 _ 1 Try.underlying23 info5 rfl rfl A n c _ rfl HS.out (bys_one _) (by unfold maxLen; omega) (by omega) ?_)
  intro v w1 hown hb
  go_wp2_with fail
  go_loopw [1, 5] (fun nv out wr => ∃ (k : Nat) (d : List Nat) (q : Int), k ≤ 9 ∧ d.length + k ≤ 9 ∧ FitS k q ∧ nv = .int .i64 q ∧ wr.ownsRow w.heap.size 5 1 out (n + d.length) (bys (l ++ d)) ∧ Below w.heap.size w wr ∧ Hid (d ++ putG lastS k q = putS m)) (fun nv _ _ => (intOf nv).natAbs)
  case atStart => exact ⟨9, [], m, by omega, by simp, hfit, rfl, by simpa using hown, hb, rfl⟩
  case round =>
    clear hown hb
    obtain ⟨k, d, q, hk, hd, hq, rfl, hown1, hb1, HD⟩ := hrel
    obtain ⟨hq0, hq1⟩ := hq.bound hk
    have hsz := hb1.size
    by_cases ha : q < -64
    · have HLa := Lib.hid (show lastS q = false by simp [lastS]; omega)
      have g1 : decide (q < -64) = true := by simp [ha]
      go_wp2_with (at_builtin; refine append_src _ rfl _ _ 23 rfl w.heap.size 5 _ 1 Try.underlying23 info5 rfl _ (n + d.length) (bys (l ++ d)) rfl (hown1.alloc _) (some ⟨wr.heap.size, 0, none⟩) 1 1 [_] rfl (src_one _ _ _) (one_int _ _) (by unfold maxLen; omega) (by omega) (by simp; omega) ?_)
      · intro v' w3 h1 h2
        obtain ⟨h3, h4⟩ := put_more (q := q) (by rw [and127_i64]; omega) hown1 hb1 h1 h2
        clear h1 h2 hown1 hb1
        obtain ⟨j, hj, hf⟩ := hq.step HLa.out
        have HJ := Lib.hid hj
        clear hj
        go_wp2
        go_roundw
        case rel =>
          refine ⟨j, d ++ [(q % 128).toNat + 128], q / 128, by have := HJ.out; omega, by have := HJ.out; simp; omega, hf, rfl, h3, h4, ?_⟩
          have e := HD.out
          rw [HJ.out, putG_go HLa.out] at e
          unfold Hid
          rw [← e]
          simp
        case measure => exact natAbs_lt_S  HLa.out
    · have g1 : decide (q < -64) = false := by simp; omega
      by_cases hb : 63 < q
      · have HLa := Lib.hid (show lastS q = false by simp [lastS]; omega)
        have g2 : decide (63 < q) = true := by simp [hb]
        go_wp2_with (at_builtin; refine append_src _ rfl _ _ 23 rfl w.heap.size 5 _ 1 Try.underlying23 info5 rfl _ (n + d.length) (bys (l ++ d)) rfl (hown1.alloc _) (some ⟨wr.heap.size, 0, none⟩) 1 1 [_] rfl (src_one _ _ _) (one_int _ _) (by unfold maxLen; omega) (by omega) (by simp; omega) ?_)
        · intro v' w3 h1 h2
          obtain ⟨h3, h4⟩ := put_more (q := q) (by rw [and127_i64]; omega) hown1 hb1 h1 h2
          clear h1 h2 hown1 hb1
          obtain ⟨j, hj, hf⟩ := hq.step HLa.out
          have HJ := Lib.hid hj
          clear hj
          go_wp2
          go_roundw
          case rel =>
            refine ⟨j, d ++ [(q % 128).toNat + 128], q / 128, by have := HJ.out; omega, by have := HJ.out; simp; omega, hf, rfl, h3, h4, ?_⟩
            have e := HD.out
            rw [HJ.out, putG_go HLa.out] at e
            unfold Hid
            rw [← e]
            simp
          case measure => exact natAbs_lt_S  HLa.out
      · have HLa := Lib.hid (show lastS q = true by simp [lastS]; omega)
        have g2 : decide (63 < q) = false := by simp; omega
        go_wp2_with (at_builtin; refine append_src _ rfl _ _ 23 rfl w.heap.size 5 _ 1 Try.underlying23 info5 rfl _ (n + d.length) (bys (l ++ d)) rfl (hown1.alloc _) (some ⟨wr.heap.size, 0, none⟩) 1 1 [_] rfl (src_one _ _ _) (one_int _ _) (by unfold maxLen; omega) (by omega) (by simp; omega) ?_)
        · intro v' w3 h1 h2
          have e := HD.out
          rw [putG_stop HLa.out] at e
          obtain ⟨h3, h4⟩ := put_end (q := q) (by rw [and127_i64]; omega) e HL.out hown1 hb1 h1 h2
          clear h1 h2 hown1 hb1 e
          go_wp2
          go_ret
          exact ⟨_, rfl, h3, h4⟩


theorem bitLenAux_le : ∀ (f x j : Nat), x < 2 ^ f → (Lib.bitLenAux f x ≤ j ↔ x < 2 ^ j)
  | 0, x, j, h => by
    have : x = 0 := by simpa using h
    subst this
    simp [Lib.bitLenAux]
    exact Nat.two_pow_pos _
  | f + 1, x, j, h => by
    unfold Lib.bitLenAux
    by_cases hx : x = 0
    · subst hx
      simp
      exact Nat.two_pow_pos _
    · rw [if_neg hx]
      cases j with
      | zero =>
        simp
        omega
      | succ j =>
        have := bitLenAux_le f (x / 2) j (by rw [Nat.pow_succ] at h; omega)
        rw [Nat.pow_succ]
        omega

/-- how many groups there are -/
theorem size_eq (n : Nat) (h : n < 18446744073709551616) : max 1 ((Lib.bitLen n + 6) / 7) = (putU n).length := by
  have hb := fun j => bitLenAux_le 64 n j (by simpa using h)
  obtain ⟨init, c, h1, hg, hc, h4, h5⟩ := putU_form 9 n ⟨by omega, by omega⟩
  have e : putU n = init ++ [c] := h1
  have hlen : (putU n).length = init.length + 1 := by rw [e]; simp
  have hlt : n < 2 ^ (7 * (putU n).length) := by
    have := uval_lt (init ++ [c])
    rw [show uval (init ++ [c]) = n from by omega, ← e] at this
    rw [Nat.pow_mul]
    exact this
  have hL1 := (hb (7 * (putU n).length)).2 hlt
  generalize hS : max 1 ((Lib.bitLen n + 6) / 7) = S
  have hS1 : 1 ≤ S := by omega
  have hS2 : Lib.bitLen n ≤ 7 * S := by omega
  have hn2 : n < 2 ^ (7 * S) := (hb (7 * S)).1 hS2
  have hle := putU_len (S - 1) 9 n (by omega) (by
    rw [show S - 1 + 1 = S from by omega]
    have : n < 128 ^ S := by rw [show (128 : Nat) = 2 ^ 7 from rfl, ← Nat.pow_mul]; exact hn2
    exact_mod_cast this)
  have hle' : (putU n).length ≤ S := by
    have : (putU n).length = (putG lastU 9 n).length := rfl
    omega
  have hL2 : Lib.bitLen n ≤ 7 * (putU n).length := hL1
  omega

theorem bitLen_le (n : Nat) (h : n < 18446744073709551616) : Lib.bitLen n ≤ 64 := (bitLenAux_le 64 n 64 (by simpa using h)).2 (by simpa using h)

set_option maxHeartbeats 400000 in
theorem Size_any (n : Nat) (w : World) (h : n < 18446744073709551616) :
    Calls Try.prog 20 #[.int .u64 n] w fun e w' => e = .returned (.int .i64 ((putU n).length : Int)) ∧ w = w' := by
  have hl := bitLen_le n h
  have HE := Lib.hid (size_eq n h)
  have h1 : (n : Int) ≤ 18446744073709551615 := by omega
  clear h
  go_enter Try.func20, Try.ntmps20
  go_wp2_with fail
  refine (Try.bits_Len64 n _ (by omega) h1).mono ?_
  rintro e w' ⟨rfl, hw⟩
  subst hw
  rw [Int.toNat_natCast]
  generalize Lib.bitLen n = L at *
  go_wp2_with fail
  go_ret
  refine ⟨?_, rfl⟩
  rw [← HE.out]
  simp
  omega

set_option maxRecDepth 100000 in
set_option maxHeartbeats 2000000 in
theorem writes_any (A : Option Addr) (na ca n : Nat) (a : List Nat) (w : World) (hA : Src w A na (bys a)) (haa : AllB a) (hAn : A = none → na = 0 ∧ ca = 0) (hn : n < 18446744073709551616) (h1 : na ≤ 140737488351232) :
    Calls Try.prog 9 #[.slice A na ca, .int .u64 n] w fun e w' => e = .returned (.bool true) ∧ Below w.heap.size w w' := by
  obtain ⟨m, hm⟩ : ∃ m : Int, wrap64 (n : Int) = m := ⟨_, rfl⟩
  have hm1 : -9223372036854775808 ≤ m := by unfold wrap64 at hm; omega
  have hm2 : m < 9223372036854775808 := by unfold wrap64 at hm; omega
  have hfu : FitU 9 (n : Int) := ⟨by omega, by omega⟩
  have hfs : FitS 9 m := ⟨by omega, by omega⟩
  have hlu := (putU_lt n hfu).1
  have HA := Lib.hid hA
  have HAn := Lib.hid hAn
  have HAU := Lib.hid (haa.app (allU (n := n)))
  have HAS := Lib.hid (haa.app (allS (n := m)))
  have HN := Lib.hid hn
  clear hA hAn hn hm1 hm2
  go_enter Try.func9, Try.ntmps9
  go_wp2_with fail
  refine (PutU_any A na ca a n _ HA.out HAn.out (by omega) hfu).mono ?_
  rintro e w1 ⟨v1, rfl, h1', hb⟩
  obtain ⟨A1, c1, rfl, _⟩ := own_shape h1'
  have HS1 := Lib.hid (Src.of_own h1')
  have HA1 := Lib.hid (HA.out.below hb (Nat.le_refl _))
  have HW1 := Lib.hid hb
  clear h1' hb HA
  generalize (a ++ putU n).length = lx at *
  go_wp2_with fail
  refine (refPutU_any A na ca a n _ HA1.out (by omega) hfu).mono ?_
  rintro e w2 ⟨v2, rfl, h2, hb⟩
  obtain ⟨A2, c2, rfl, _⟩ := own_shape h2
  have HS2 := Lib.hid (Src.of_own h2)
  have HT2 := Lib.hid (HS1.out.below hb (Nat.le_refl _))
  have HA2 := Lib.hid (HA1.out.below hb (Nat.le_refl _))
  have HW2 := Lib.hid (HW1.out.trans (hb.mono HW1.out.size))
  clear h2 hb HA1 HW1 HS1
  generalize (a ++ putU n).length = lx2 at *
  go_wp2_with fail
  refine (same_any _ _ _ _ _ _ _ _ _ HT2.out HAU.out HS2.out HAU.out).mono ?_
  rintro e w3 ⟨rfl, rfl⟩
  rw [decide_eq_true rfl]
  clear HS2 HT2
  go_wp2_with fail
  refine (PutS_any A na ca a m _ HA2.out HAn.out (by omega) hfs).mono ?_
  rintro e w3 ⟨v3, rfl, h3, hb⟩
  obtain ⟨A3, c3, rfl, _⟩ := own_shape h3
  have HS3 := Lib.hid (Src.of_own h3)
  have HA3 := Lib.hid (HA2.out.below hb (Nat.le_refl _))
  have HW3 := Lib.hid (HW2.out.trans (hb.mono HW2.out.size))
  clear h3 hb HA2 HW2
  generalize (a ++ putS m).length = ly at *
  go_wp2_with fail
  refine (refPutS_any A na ca a m _ HA3.out (by omega) hfs).mono ?_
  rintro e w4 ⟨v4, rfl, h4, hb⟩
  obtain ⟨A4, c4, rfl, _⟩ := own_shape h4
  have HS4 := Lib.hid (Src.of_own h4)
  have HT4 := Lib.hid (HS3.out.below hb (Nat.le_refl _))
  have HW4 := Lib.hid (HW3.out.trans (hb.mono HW3.out.size))
  clear h4 hb HA3 HW3 HS3
  generalize (a ++ putS m).length = ly2 at *
  go_wp2_with fail
  refine (same_any _ _ _ _ _ _ _ _ _ HT4.out HAS.out HS4.out HAS.out).mono ?_
  rintro e w5 ⟨rfl, rfl⟩
  rw [decide_eq_true rfl]
  clear HS4 HT4
  go_wp2_with fail
  refine (Size_any n _ HN.out).mono ?_
  rintro e w5 ⟨rfl, rfl⟩
  generalize hlen : (putU n).length = L at *
  have HLen := Lib.hid hlen
  clear hlen
  go_wp2_with fail
  refine (refPutU_any none 0 0 [] n _ (Src.nil _ _) (by omega) hfu).mono ?_
  rintro e w6 ⟨v6, rfl, h6, hb⟩
  rw [List.nil_append, HLen.out] at h6
  obtain ⟨A6, c6, rfl, _⟩ := own_shape h6
  have HW6 := Lib.hid (HW4.out.trans (hb.mono HW4.out.size))
  clear h6 hb HW4
  have q1 : ((L : Int) == (L : Int)) = true := by simp
  go_wp2_with fail
  refine (alive_any _).mono ?_
  rintro e w7 ⟨rfl, hb⟩
  have HW7 := Lib.hid (HW6.out.trans (hb.mono HW6.out.size))
  clear hb
  go_wp2_with fail
  go_ret
  exact ⟨rfl, HW7.out⟩

theorem writes_walk (w : World) (A : Option Addr) (na ca : Nat) (za : List Int) (ra : RowIn .u8 w A na ca za) (hca : ca * Try.prog.bytesOf 5 ≤ reachBytes) (a1 : Int) (w1 : (Lit.int .u64 a1).wf = true) :
    Calls Try.prog 9 #[.slice A na ca, .int .u64 a1] w fun e w' => e = .returned (.bool true) ∧ Below w.heap.size w w' := by
  obtain ⟨h0, h1⟩ := u64_bounds w1
  obtain ⟨n, rfl⟩ := Int.eq_ofNat_of_zero_le h0
  obtain ⟨a, sa, aa, la, ha0⟩ := ra.bytes
  rw [show Try.prog.bytesOf 5 = 1 by kernel_rfl] at hca
  simp only [reachBytes] at hca
  exact writes_any A na ca n a w sa aa ha0 (by omega) (by omega)

end Go.Proofs.Ytlfbmpbnmakacaa
