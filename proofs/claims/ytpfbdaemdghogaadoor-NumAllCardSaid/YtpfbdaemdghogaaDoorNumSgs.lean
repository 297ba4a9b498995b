/-
  NumSigs: what the statement's function answers.
  Conditions: the library's two tables hold what their initialisers lay.
-/
import Derived.Test.YtpfbdaemdghogaaDoorNumPOps
import Derived.Test.YtpfbdaemdghogaaDoorNumAlive
import Derived.Test.YtpfbdaemdghogaaDoorNumCom
namespace Go.Proofs.YtpfbdaemdghogaaDoor
open Go.RowKit Go.Bk Go.Bk.Num
set_option linter.unusedVariables false
set_option linter.unusedSimpArgs false

theorem opsL_len : opsL.length ≤ 256 := opsTo_len 256
theorem sigL_len (op : Int) : (sigL op).length ≤ 2 := by
  unfold sigL
  repeat' split
  all_goals simp
set_option maxRecDepth 100000 in
set_option maxHeartbeats 4000000 in
theorem NumSigs_true (w : World) (hT : Tabs w) (op : Int) (hop : (Lit.int .i64 op).wf = true) :
    Calls Tryd.prog 9 #[.int .i64 op] w fun e w' => e = .returned (.bool true) ∧ Below w.heap.size w w' := by
  obtain ⟨ho1, ho2⟩ := i64_bounds hop
  have HT := Lib.hid hT
  obtain ⟨tb, htb⟩ : ∃ tb, totB op = tb := ⟨_, rfl⟩
  obtain ⟨cb, hcb⟩ : ∃ cb, comB op = cb := ⟨_, rfl⟩
  obtain ⟨L, hL⟩ : ∃ L, (sigL op).length = L := ⟨_, rfl⟩
  obtain ⟨O, hO⟩ : ∃ O, sigO op = O := ⟨_, rfl⟩
  obtain ⟨I, hI⟩ : ∃ I, (grpOf op).isSome = I := ⟨_, rfl⟩
  obtain ⟨K, hK⟩ : ∃ K, opsL.length = K := ⟨_, rfl⟩
  have e1 : (O == O) = true := by simp
  have e2 : (I == I) = true := by simp
  have e3 : (tb == tb) = true := by simp
  have e4 : (cb == cb) = true := by simp
  have HTB := Lib.hid htb
  have HTB' := Lib.hid ((rtot_eq op).trans htb)
  have HCB := Lib.hid hcb
  have HCB' := Lib.hid ((rcom_eq op).trans hcb)
  have HL := Lib.hid hL
  have HO := Lib.hid hO
  have HI := Lib.hid hI
  have HK := Lib.hid hK
  have hL2 : L ≤ 2 := by rw [← hL]; exact sigL_len op
  have hK2 : K ≤ 256 := by rw [← hK]; exact opsL_len
  clear hT htb hcb hL hO hI hK hop
  go_enter Tryd.func9, Tryd.ntmps9
  go_wp2_with fail
  refine (Sig_any op _ ho1 ho2).mono ?_
  rintro e w1 ⟨A1, c1, rfl, hw1, hb1⟩
  rw [HL.out] at hw1
  rw [HO.out, HI.out, HL.out]
  have HW1 := Lib.hid hw1
  have HB1 := Lib.hid hb1
  clear hw1 hb1
  go_wp2_with fail
  refine (RSig_any op _).mono ?_
  rintro e w2 ⟨A2, c2, rfl, hw2, hb2⟩
  rw [HL.out] at hw2
  rw [HO.out, HI.out, HL.out]
  have HW2 := Lib.hid (Src.of_own hw2)
  have HW1' := Lib.hid (Src.of_own (own_below HW1.out hb2 (Nat.le_refl _)))
  have HB2 := Lib.hid (HB1.out.trans (hb2.mono HB1.out.size))
  clear hw2 hb2
  go_wp2_with fail
  refine (same_eq A1 A2 L c1 c2 (sigL op) _ HW1'.out HW2.out (by omega)).mono ?_
  rintro e w3 ⟨rfl, hb3⟩
  have HB3 := Lib.hid (HB2.out.trans (hb3.mono HB2.out.size))
  clear hb3
  go_wp2_with fail
  refine (Total_any op _ ho1 ho2).mono ?_
  rintro e w4 ⟨rfl, hb4⟩
  rw [HTB.out]
  have HB4 := Lib.hid (HB3.out.trans (hb4.mono HB3.out.size))
  clear hb4
  go_wp2_with fail
  refine (RTotal_any op _).mono ?_
  rintro e w5 ⟨rfl, rfl⟩
  rw [HTB'.out]
  go_wp2_with fail
  refine (Commutes_any op _ ho1 ho2).mono ?_
  rintro e w5 ⟨rfl, hb5⟩
  rw [HCB.out]
  have HB5 := Lib.hid (HB4.out.trans (hb5.mono HB4.out.size))
  clear hb5
  go_wp2_with fail
  refine (RCommutes_any op _).mono ?_
  rintro e w6 ⟨rfl, rfl⟩
  rw [HCB'.out]
  go_wp2_with fail
  refine (POps_any _).mono ?_
  rintro e w6 ⟨A6, c6, rfl, hw6, hb6⟩
  rw [HK.out] at hw6
  rw [HK.out]
  have HW6 := Lib.hid hw6
  have HB6 := Lib.hid (HB5.out.trans (hb6.mono HB5.out.size))
  clear hw6 hb6
  go_wp2_with fail
  refine (ROps_any _).mono ?_
  rintro e w7 ⟨A7, c7, rfl, hw7, hb7⟩
  rw [HK.out] at hw7
  rw [HK.out]
  have HW7 := Lib.hid (Src.of_own hw7)
  have HW6' := Lib.hid (Src.of_own (own_below HW6.out hb7 (Nat.le_refl _)))
  have HB7 := Lib.hid (HB6.out.trans (hb7.mono HB6.out.size))
  clear hw7 hb7
  go_wp2_with fail
  refine (same_eq A6 A7 K c6 c7 opsL _ HW6'.out HW7.out (by omega)).mono ?_
  rintro e w8 ⟨rfl, hb8⟩
  have HB8 := Lib.hid (HB7.out.trans (hb8.mono HB7.out.size))
  clear hb8
  have HTZ := Lib.hid (HT.out.below HB8.out HT.out.2.2)
  go_wp2_with fail
  refine (alive_any _ HTZ.out).mono ?_
  rintro e w9 ⟨rfl, hb9⟩
  have HB9 := Lib.hid (HB8.out.trans (hb9.mono HB8.out.size))
  clear hb9
  go_wp2
  go_ret
  exact ⟨rfl, HB9.out⟩
end Go.Proofs.YtpfbdaemdghogaaDoor
