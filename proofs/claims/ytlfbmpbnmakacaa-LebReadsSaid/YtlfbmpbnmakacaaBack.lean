/-
  The statement LebBack: what was put is read, and the place behind it told: the law answers true.
  Conditions: the slices are together no longer than the row says.
-/
import Derived.Test.YtlfbmpbnmakacaaHeads
import Derived.Test.YtlfbmpbnmakacaaRowin
namespace Go.Proofs.Ytlfbmpbnmakacaa
open Go.RowKit Go.Bk Go.Bk.Leb

theorem PutU_src (A : Option Addr) (n c : Nat) (l : List Nat) (m : Int) (w : World) (hs : Src w A n (bys l)) (hA : A = none → n = 0 ∧ c = 0) (hn : n ≤ 140737488355300) (hfit : FitU 9 m) :
    Calls Try.prog 10 #[.slice A n c, .int .u64 m] w fun e w' => ∃ B L d, e = .returned (.slice B L d) ∧ L ≤ d ∧ L ≤ n + 10 ∧ Src w' B L (bys (l ++ putU m)) ∧ Below w.heap.size w w' := by
  have hl : l.length = n := by rw [← hs.1, bys_len]
  have hp := (putU_lt m hfit).1
  refine (PutU_any A n c l m w hs hA hn hfit).mono ?_
  rintro e w' ⟨v, rfl, hown, hb⟩
  obtain ⟨A, c, rfl, hc⟩ := own_shape hown
  exact ⟨A, _, c, rfl, hc, by rw [List.length_append]; omega, Src.of_own hown, hb⟩
theorem PutS_src (A : Option Addr) (n c : Nat) (l : List Nat) (m : Int) (w : World) (hs : Src w A n (bys l)) (hA : A = none → n = 0 ∧ c = 0) (hn : n ≤ 140737488355300) (hfit : FitS 9 m) :
    Calls Try.prog 16 #[.slice A n c, .int .i64 m] w fun e w' => ∃ B L d, e = .returned (.slice B L d) ∧ L ≤ d ∧ L ≤ n + 10 ∧ Src w' B L (bys (l ++ putS m)) ∧ Below w.heap.size w w' := by
  have hl : l.length = n := by rw [← hs.1, bys_len]
  have hp := (putS_lt m hfit).1
  refine (PutS_any A n c l m w hs hA hn hfit).mono ?_
  rintro e w' ⟨v, rfl, hown, hb⟩
  obtain ⟨A, c, rfl, hc⟩ := own_shape hown
  exact ⟨A, _, c, rfl, hc, by rw [List.length_append]; omega, Src.of_own hown, hb⟩

set_option maxRecDepth 100000 in
set_option maxHeartbeats 2000000 in
theorem back_any (A B : Option Addr) (na ca nb cb n : Nat) (a b : List Nat) (w : World) (hA : Src w A na (bys a)) (haa : AllB a) (hAn : A = none → na = 0 ∧ ca = 0) (hB : Src w B nb (bys b)) (hbb : AllB b)
    (hn : n < 18446744073709551616) (h1 : na ≤ 70000000000000) (h2 : nb ≤ 70000000000000) :
    Calls Try.prog 5 #[.slice A na ca, .slice B nb cb, .int .u64 n] w fun e w' => e = .returned (.bool true) ∧ Below w.heap.size w w' := by
  obtain ⟨m, hm⟩ : ∃ m : Int, wrap64 (n : Int) = m := ⟨_, rfl⟩
  have hm1 : -9223372036854775808 ≤ m := by unfold wrap64 at hm; omega
  have hm2 : m < 9223372036854775808 := by unfold wrap64 at hm; omega
  have hfu : FitU 9 (n : Int) := ⟨by omega, by omega⟩
  have hfs : FitS 9 m := ⟨by omega, by omega⟩
  have hlu := (putU_lt n hfu).1
  have hls := (putS_lt m hfs).1
  have hla : a.length = na := by rw [← hA.1, bys_len]
  have hlb : b.length = nb := by rw [← hB.1, bys_len]
  have HLA := Lib.hid hla
  have HLB := Lib.hid hlb
  have hru := readU_put a b n hn
  have hrs := readS_put a b m hm1 hm2
  rw [hla] at hru hrs
  have HRu := Lib.hid hru
  have HRs := Lib.hid hrs
  clear hru hrs
  simp only [faultV] at HRu HRs
  have HAn := Lib.hid hAn
  have HA := Lib.hid hA
  have HB := Lib.hid hB
  clear hla hlb hAn hA hB hn hm1 hm2
  go_enter Try.func5, Try.ntmps5
  go_wp2_with fail
  refine (PutU_src A na ca a n _ HA.out HAn.out (by omega) hfu).mono ?_
  rintro e w1 ⟨X, lx, cx, rfl, hcx, hlx, hs, hb⟩
  have HX := Lib.hid hs
  have HA1 := Lib.hid (HA.out.below hb (Nat.le_refl _))
  have HB1 := Lib.hid (HB.out.below hb (Nat.le_refl _))
  have HW1 := Lib.hid hb
  have HLX := Lib.hid (show na + (putU n).length = lx by have h := hs.1; rw [bys_len, List.length_append, HLA.out] at h; exact h)
  rw [HLX.out] at HRu
  clear hs hb HA HB
  go_wp2_with fail
  refine (PutS_src A na ca a m _ HA1.out HAn.out (by omega) hfs).mono ?_
  rintro e w2 ⟨Y, ly, cy, rfl, hcy, hly, hs, hb⟩
  have HY2 := Lib.hid hs
  have HX2 := Lib.hid (HX.out.below hb (Nat.le_refl _))
  have HB2 := Lib.hid (HB1.out.below hb (Nat.le_refl _))
  have HW2 := Lib.hid (HW1.out.trans (hb.mono HW1.out.size))
  have HLY := Lib.hid (show na + (putS m).length = ly by have h := hs.1; rw [bys_len, List.length_append, HLA.out] at h; exact h)
  rw [HLY.out] at HRs
  clear hs hb HA1 HB1 HX HW1
  have hsz2 := HW2.out.size
  go_wp2_with (at_builtin; refine append_copy _ rfl _ (.tmp 23) 23 rfl 5 _ 1 Try.underlying23 info5 rfl rfl X lx cx _ rfl HX2.out (bys_one _) (by unfold maxLen; omega) (by omega) ?_)
  intro v3 w3 h3 h4
  have HW3 := Lib.hid h4
  have HO3 := Lib.hid h3
  have HB3 := Lib.hid (HB2.out.below HW3.out (Nat.le_refl _))
  have HY3 := Lib.hid (HY2.out.below HW3.out (Nat.le_refl _))
  clear h3 h4 HX2
  have hsz3 := HW3.out.size
  go_wp2_with (at_builtin; refine append_own _ rfl _ (.tmp 25) 23 rfl w2.heap.size 5 _ 1 Try.underlying23 info5 rfl _ lx _ rfl HO3.out B nb cb _ rfl HB3.out (bys_one _) (by unfold maxLen; omega) (by omega) hsz3 ?_)
  intro v4 w4 h3 h4
  have HW4 := Lib.hid (HW3.out.trans h4)
  rw [← bys_app, List.append_assoc] at h3
  obtain ⟨Z, cz, rfl, hcz⟩ := own_shape h3
  have HZ := Lib.hid (Src.of_own h3)
  have HW := Lib.hid (HW2.out.trans (HW4.out.mono hsz2))
  have HB4 := Lib.hid (HB2.out.below HW4.out (Nat.le_refl _))
  have HY4 := Lib.hid (HY2.out.below HW4.out (Nat.le_refl _))
  clear h3 h4 HB3 HY3 HW3 HW4 HO3 HB2 HY2 HW2 hsz2 hsz3
  have HAll := Lib.hid ((haa.app (allU (n := n))).app hbb)
  rw [List.append_assoc] at HAll
  go_wp2_with fail
  refine (U_any Z _ cz _ na 64 _ HZ.out HAll.out hcz (by omega)).mono ?_
  rintro e w5 ⟨rfl, hb⟩
  rw [HRu.out]
  have HB5 := Lib.hid (HB4.out.below hb (Nat.le_refl _))
  have HY5 := Lib.hid (HY4.out.below hb (Nat.le_refl _))
  have HW5 := Lib.hid (HW.out.trans (hb.mono HW.out.size))
  clear hb HB4 HY4 HW HZ HAll
  go_wp2_with (at_builtin; refine append_copy _ rfl _ (.tmp 34) 23 rfl 5 _ 1 Try.underlying23 info5 rfl rfl Y ly cy _ rfl (HY5.out.below ((Below.refl _ _).alloc (Nat.le_refl _) _) (Nat.le_refl _)) (bys_one _) (by unfold maxLen; omega) (by omega) ?_)
  intro v6 w6 h3 h4
  have HO6 := Lib.hid h3
  have HF6 := Lib.hid ((FB.new w5 (.int .i64 0) (.int .i64 0) (.int .i64 0)).below h4 (by simp))
  have HB6 := Lib.hid ((HB5.out.below ((Below.refl _ _).alloc (Nat.le_refl _) (.cells #[.int .i64 0, .int .i64 0, .int .i64 0] 28)) (Nat.le_refl _)).below h4 (by simp))
  have HW6 := Lib.hid ((HW5.out.alloc HW5.out.size (.cells #[.int .i64 0, .int .i64 0, .int .i64 0] 28)).trans (h4.mono (by have := HW5.out.size; simp; omega)))
  have hs6 : w5.heap.size + 1 ≤ w6.heap.size := by have := h4.size; simpa using this
  have hw5 := HW5.out.size
  clear h3 h4 HB5 HY5 HW5
  go_wp2_with (at_builtin; refine append_own _ rfl _ (.tmp 36) 23 rfl (w5.heap.size + 1) 5 _ 1 Try.underlying23 info5 rfl _ ly _ rfl HO6.out B nb cb _ rfl HB6.out (bys_one _) (by unfold maxLen; omega) (by omega) hs6 ?_)
  intro v7 w7 h3 h4
  rw [← bys_app, List.append_assoc] at h3
  obtain ⟨Z7, cz7, rfl, hcz7⟩ := own_shape h3
  have HZ := Lib.hid (Src.of_own h3)
  have HF7 := Lib.hid (show FB w7 w5.heap.size (.int .i64 0) (.int .i64 0) (.int .i64 0) from (h4.block w5.heap.size (by omega)).trans HF6.out)
  have HW7 := Lib.hid (HW6.out.trans (h4.mono (by have := HW6.out.size; omega)))
  clear h3 h4 HO6 HF6 HB6 HW6
  have HAll := Lib.hid ((haa.app (allS (n := m))).app hbb)
  rw [List.append_assoc] at HAll
  go_wp2_with fail
  refine (S_any Z7 _ cz7 _ na 64 _ HZ.out HAll.out hcz7 (by omega)).mono ?_
  rintro e w8 ⟨rfl, hb⟩
  rw [HRs.out]
  obtain ⟨f1, f2, f3⟩ := (HF7.out.below hb (Nat.le_refl _)).cells
  have l1 := (HF7.out.below hb (Nat.le_refl _)).lt
  have HW8 := Lib.hid (HW7.out.trans (hb.mono HW7.out.size))
  clear hb HF7 HW7 HZ HAll
  have q1 : ((n : Int) == (n : Int)) = true := by simp
  have q2 : (m == m) = true := by simp
  have q3 : ((lx : Int) == (lx : Int)) = true := by simp
  have q4 : ((ly : Int) == (ly : Int)) = true := by simp
  go_wp2_with fail
  refine (alive_any _).mono ?_
  rintro e w9 ⟨rfl, hb⟩
  have HW9 := Lib.hid ((HW8.out.alloc HW8.out.size _).trans (hb.mono (by have := HW8.out.size; simp; omega)))
  clear hb
  go_wp2_with fail
  go_ret
  exact ⟨rfl, HW9.out⟩

theorem back_walk (w : World) (A : Option Addr) (na ca : Nat) (za : List Int) (ra : RowIn .u8 w A na ca za) (hca : ca ≤ 1048576) (B : Option Addr) (nb cb : Nat) (zb : List Int) (rb : RowIn .u8 w B nb cb zb) (hcb : cb ≤ 1048576)
    (a2 : Int) (w2 : (Lit.int .u64 a2).wf = true) :
    Calls Try.prog 5 #[.slice A na ca, .slice B nb cb, .int .u64 a2] w fun e w' => e = .returned (.bool true) ∧ Below w.heap.size w w' := by
  obtain ⟨h0, h1⟩ := u64_bounds w2
  obtain ⟨n, rfl⟩ := Int.eq_ofNat_of_zero_le h0
  obtain ⟨a, sa, aa, la, na0⟩ := ra.bytes
  obtain ⟨b, sb, ab, lb, _⟩ := rb.bytes
  exact back_any A B na ca nb cb n a b w sa aa na0 sb ab (by omega) (by omega) (by omega)

end Go.Proofs.Ytlfbmpbnmakacaa
