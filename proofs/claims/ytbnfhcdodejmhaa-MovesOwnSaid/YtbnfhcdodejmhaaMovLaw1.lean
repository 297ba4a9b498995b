/-
  MovesRights, MovesDo, MovesRefused and MovesFew: what the statements' functions answer.
  Conditions: the rows are within the row's own reach.
-/
import Derived.Test.YtbnfhcdodejmhaaMovLaw0
namespace Go.Proofs.Ytbnfhcdodejmhaa
open Go.RowKit Go.Bk Go.Bk.Mov
set_option linter.unusedVariables false
set_option linter.unusedSimpArgs false

theorem bytes_move : Try.prog.bytesOf 38 = 16 := by kernel_rfl
theorem bytes_u64 : Try.prog.bytesOf 34 = 8 := by kernel_rfl
theorem reach_num : reachBytes = 140737488351232 := rfl
theorem mv_bound {w : World} {a : Option Addr} {len cap : Nat} {l : List Mv} (h : MvIn w a len cap l) (hr : cap * Try.prog.bytesOf 38 ≤ reachBytes) : len ≤ 8796093021952 := by
  rw [bytes_move, reach_num] at hr
  have := h.2.1
  omega
theorem rowInW {w : World} {a : Option Addr} {len cap : Nat} {zs : List Int} (h : RowIn .u64 w a len cap zs) (hr : cap * Try.prog.bytesOf 34 ≤ reachBytes) : ∃ l : List Nat, Bk.Src w a len (u64W l) ∧ (∀ x ∈ l, x < 18446744073709551616) ∧ l.length = len ∧ len * 8 ≤ 140737488351232 ∧ (a = none → len = 0 ∧ cap = 0) := by
  obtain ⟨h1, h2, h3, h4⟩ := h.src
  rw [bytes_u64, reach_num] at hr
  have hz : ∀ n ∈ zs, 0 ≤ n ∧ n < 18446744073709551616 := fun n hn => u64_bounds (h4 n hn)
  have e : u64W ((zs.take len).map Int.toNat) = (zs.take len).map (Value.int .u64) := by
    unfold u64W
    rw [List.map_map]
    refine List.map_congr_left fun n hn => ?_
    have := hz n (List.mem_of_mem_take hn)
    simp
    omega
  refine ⟨(zs.take len).map Int.toNat, by rw [e]; exact h1, ?_, ?_, by omega, h3⟩
  · intro c hc
    obtain ⟨n, hn, rfl⟩ := List.mem_map.1 hc
    have := hz n (List.mem_of_mem_take hn)
    omega
  · have := h1.1
    simpa using this

set_option maxRecDepth 100000 in
set_option maxHeartbeats 2000000 in
theorem MovesRights_true (w : World) (A : Option Addr) (n c : Nat) (l : List Mv) (hs : MvIn w A n c l) (hr : c * Try.prog.bytesOf 38 ≤ reachBytes) :
    Calls Try.prog 3 #[.slice A n c] w fun e w' => e = .returned (.bool true) ∧ Below w.heap.size w w' := by
  have hn := mv_bound hs hr
  have HS := Lib.hid hs.1
  obtain ⟨b, hb⟩ : ∃ b, rightB l = b := ⟨_, rfl⟩
  have HE := Lib.hid hb
  have e1 : (b == b) = true := by simp
  clear hs hr hb
  go_enter Try.func3, Try.ntmps3
  go_wp2_with fail
  refine (Right_any A n c l _ HS.out (by omega)).mono ?_
  rintro e w1 ⟨rfl, hb1⟩
  rw [HE.out]
  have HB1 := Lib.hid hb1
  clear hb1
  go_wp2_with fail
  refine (RRight_any A n c l _ (HS.out.below HB1.out (Nat.le_refl _)) (by omega)).mono ?_
  rintro e w2 ⟨rfl, hb2⟩
  rw [HE.out]
  have HB2 := Lib.hid (HB1.out.trans (hb2.mono HB1.out.size))
  clear hb2
  go_wp2_with fail
  refine (Rings_any A n c l _ (HS.out.below HB2.out (Nat.le_refl _)) (by omega)).mono ?_
  rintro e w3 ⟨r, rfl, hr1, hr2, hb3⟩
  have HB3 := Lib.hid (HB2.out.trans (hb3.mono HB2.out.size))
  have HR1 := Lib.hid hr1
  have HR2 := Lib.hid hr2
  clear hb3 hr1 hr2
  go_wp2_with fail
  refine (RRings_any A n c l _ (HS.out.below HB3.out (Nat.le_refl _)) (by omega)).mono ?_
  rintro e w4 ⟨r', rfl, hr1, hr2, _, hb4⟩
  have hrr : r' = r := by
    cases hbb : rightB l with
    | false => rw [hr1 hbb, HR1.out hbb]
    | true => exact (hr2 hbb).one (HR2.out hbb)
  subst hrr
  have e2 : ((r' : Int) == r') = true := by simp
  have HB4 := Lib.hid (HB3.out.trans (hb4.mono HB3.out.size))
  clear hb4 hr1 hr2 HR1 HR2
  go_wp2_with fail
  refine (alive_any _).mono ?_
  rintro e w5 ⟨rfl, hb5⟩
  have HB5 := Lib.hid (HB4.out.trans (hb5.mono HB4.out.size))
  clear hb5
  go_wp2
  go_ret
  exact ⟨rfl, HB5.out⟩

set_option maxRecDepth 100000 in
set_option maxHeartbeats 2000000 in
theorem MovesDo_true (w : World) (A : Option Addr) (n c : Nat) (l : List Mv) (hs : MvIn w A n c l) (hr : c * Try.prog.bytesOf 38 ≤ reachBytes) (B : Option Addr) (m d : Nat) (zs : List Int) (hz : RowIn .u64 w B m d zs) (hr2 : d * Try.prog.bytesOf 34 ≤ reachBytes) :
    Calls Try.prog 4 #[.slice A n c, .slice B m d] w fun e w' => e = .returned (.bool true) ∧ Below w.heap.size w w' := by
  have hn := mv_bound hs hr
  obtain ⟨h, hh, _, hhl, hm, hB⟩ := rowInW hz hr2
  have HS := Lib.hid hs.1
  have HH := Lib.hid hh
  have HBN := Lib.hid hB
  have HD := Lib.hid (show (doL l h).length = m by rw [doL_len]; exact hhl)
  have HA := Lib.hid (show (atL l h).length = m by rw [atL_len]; exact hhl)
  clear hs hr hz hr2 hh hB hhl
  go_enter Try.func4, Try.ntmps4
  go_wp2_with fail
  refine (Do_any A B n c m d l h _ HS.out (by omega) HH.out HBN.out (by omega)).mono ?_
  rintro e w1 ⟨A1, c1, rfl, ho1, hb1⟩
  rw [HD.out] at ho1 ⊢
  have HO1 := Lib.hid (Bk.Src.of_own ho1)
  have HB1 := Lib.hid hb1
  clear ho1 hb1
  go_wp2_with fail
  refine (RDo_any A B n c m d l h _ (HS.out.below HB1.out (Nat.le_refl _)) (by omega) (HH.out.below HB1.out (Nat.le_refl _)) (by omega)).mono ?_
  rintro e w2 ⟨A2, c2, rfl, ho2, hb2⟩
  rw [HD.out] at ho2 ⊢
  have HO2 := Lib.hid (Bk.Src.of_own ho2)
  have HO1' := Lib.hid (HO1.out.below hb2 (Nat.le_refl _))
  have HB2 := Lib.hid (HB1.out.trans (hb2.mono HB1.out.size))
  clear ho2 hb2
  go_wp2_with fail
  refine (Words_eq A1 A2 m c1 c2 (doL l h) _ HO1'.out HO2.out (by omega)).mono ?_
  rintro e w3 ⟨rfl, hb3⟩
  have HB3 := Lib.hid (HB2.out.trans (hb3.mono HB2.out.size))
  clear hb3
  go_wp2_with fail
  refine (AtOnce_any A B n c m d l h _ (HS.out.below HB3.out (Nat.le_refl _)) (by omega) (HH.out.below HB3.out (Nat.le_refl _)) HBN.out (by omega)).mono ?_
  rintro e w4 ⟨A4, c4, rfl, ho4, hb4⟩
  rw [HA.out] at ho4 ⊢
  have HO4 := Lib.hid (Bk.Src.of_own ho4)
  have HB4 := Lib.hid (HB3.out.trans (hb4.mono HB3.out.size))
  clear ho4 hb4
  go_wp2_with fail
  refine (RAt_any A B n c m d l h _ (HS.out.below HB4.out (Nat.le_refl _)) (by omega) (HH.out.below HB4.out (Nat.le_refl _)) (by omega)).mono ?_
  rintro e w5 ⟨A5, c5, rfl, ho5, hb5⟩
  rw [HA.out] at ho5 ⊢
  have HO5 := Lib.hid (Bk.Src.of_own ho5)
  have HO4' := Lib.hid (HO4.out.below hb5 (Nat.le_refl _))
  have HB5 := Lib.hid (HB4.out.trans (hb5.mono HB4.out.size))
  clear ho5 hb5
  go_wp2_with fail
  refine (Words_eq A4 A5 m c4 c5 (atL l h) _ HO4'.out HO5.out (by omega)).mono ?_
  rintro e w6 ⟨rfl, hb6⟩
  have HB6 := Lib.hid (HB5.out.trans (hb6.mono HB5.out.size))
  clear hb6
  go_wp2_with fail
  refine (alive_any _).mono ?_
  rintro e w7 ⟨rfl, hb7⟩
  have HB7 := Lib.hid (HB6.out.trans (hb7.mono HB6.out.size))
  clear hb7
  go_wp2
  go_ret
  exact ⟨rfl, HB7.out⟩

set_option maxRecDepth 100000 in
set_option maxHeartbeats 2000000 in
theorem MovesRefused_true (w : World) (A : Option Addr) (n c : Nat) (l : List Mv) (hs : MvIn w A n c l) (hr : c * Try.prog.bytesOf 38 ≤ reachBytes) (spare : Int) (hsp : (Lit.int .i64 spare).wf = true) :
    Calls Try.prog 5 #[.slice A n c, .int .i64 spare] w fun e w' => e = .returned (.bool true) ∧ Below w.heap.size w w' := by
  have hn := mv_bound hs hr
  have HS := Lib.hid hs.1
  clear hs hr hsp
  go_enter Try.func5, Try.ntmps5
  go_wp2_with fail
  refine (Row_any A n c l spare _ HS.out (by omega)).mono ?_
  rintro e w1 (⟨hf, rfl, hb1⟩ | ⟨hf, k, A1, c1, rfl, ho1, hk, hb1⟩)
  all_goals
    have HF := Lib.hid hf
    have HB1 := Lib.hid hb1
    clear hf hb1
    go_wp2_with fail
    refine (Fits_any A n c l spare _ (HS.out.below HB1.out (Nat.le_refl _)) (by omega)).mono ?_
    rintro e w2 ⟨rfl, hb2⟩
    rw [HF.out]
    have HB2 := Lib.hid (HB1.out.trans (hb2.mono HB1.out.size))
    clear hb2
    go_wp2_with fail
    refine (alive_any _).mono ?_
    rintro e w5 ⟨rfl, hb5⟩
    have HB5 := Lib.hid (HB2.out.trans (hb5.mono HB2.out.size))
    clear hb5
    go_wp2
    go_ret
    exact ⟨rfl, HB5.out⟩

set_option maxRecDepth 100000 in
set_option maxHeartbeats 2000000 in
theorem MovesFew_true (w : World) (A : Option Addr) (n c : Nat) (l : List Mv) (hs : MvIn w A n c l) (hr : c * Try.prog.bytesOf 38 ≤ reachBytes) (spare : Int) (hsp : (Lit.int .i64 spare).wf = true) :
    Calls Try.prog 7 #[.slice A n c, .int .i64 spare] w fun e w' => e = .returned (.bool true) ∧ Below w.heap.size w w' := by
  have hn := mv_bound hs hr
  have HS := Lib.hid hs.1
  clear hs hr hsp
  go_enter Try.func7, Try.ntmps7
  go_wp2_with fail
  refine (Row_any A n c l spare _ HS.out (by omega)).mono ?_
  rintro e w1 (⟨hf, rfl, hb1⟩ | ⟨hf, k, A1, c1, rfl, ho1, hk, hb1⟩)
  · have HB1 := Lib.hid hb1
    clear hf hb1
    go_wp2_with fail
    refine (alive_any _).mono ?_
    rintro e w5 ⟨rfl, hb5⟩
    have HB5 := Lib.hid (HB1.out.trans (hb5.mono HB1.out.size))
    clear hb5
    go_wp2
    go_ret
    exact ⟨rfl, HB5.out⟩
  · have HF := Lib.hid (fits_spare hf).1
    have HK := Lib.hid hk
    have HB1 := Lib.hid hb1
    clear hf hb1 ho1 hk
    go_wp2_with fail
    refine (Least_any A n c l _ (HS.out.below HB1.out (Nat.le_refl _)) (by omega)).mono ?_
    rintro e w2 ⟨r, rfl, hrc, hb2⟩
    have hlen : ((k.length : Int) == ((r + (nontriv l).length : Nat) : Int)) = true := by
      have := HK.out.len (hrc (decide_eq_true HF.out))
      rw [this]
      simp
      omega
    have hlen2 : (k.length == r + (nontriv l).length) = true := by
      have := HK.out.len (hrc (decide_eq_true HF.out))
      simp
      omega
    have HB2 := Lib.hid (HB1.out.trans (hb2.mono HB1.out.size))
    clear hb2 hrc
    obtain ⟨q, hq⟩ : ∃ q, r + (nontriv l).length = q := ⟨_, rfl⟩
    rw [hq] at hlen hlen2 ⊢
    clear hq
    go_wp2_with fail
    refine (alive_any _).mono ?_
    rintro e w5 ⟨rfl, hb5⟩
    have HB5 := Lib.hid (HB2.out.trans (hb5.mono HB2.out.size))
    clear hb5
    go_wp2
    go_ret
    exact ⟨rfl, HB5.out⟩
end Go.Proofs.Ytbnfhcdodejmhaa
