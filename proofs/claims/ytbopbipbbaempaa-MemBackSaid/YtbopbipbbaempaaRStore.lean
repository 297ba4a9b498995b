/-
  What the reference of mem.Store answers: the same.
  Conditions: the slice is within the row's own reach.
-/
import Derived.Test.YtbopbipbbaempaaStore
namespace Go.Proofs.Ytbopbipbbaempaa
open Go.RowKit Go.Bk Go.Bk.Mem Go.Shelf

/-- does a number fit the kind? -/
def fitsB (k : Int) (N : Nat) : Bool := decide (k = 126 ∨ (k = 127 ∧ N < 4294967296))
set_option maxHeartbeats 400000 in
theorem fits_any (k : Int) (N : Nat) (w : World) : Calls Try.prog 27 #[.int .i64 k, .int .u64 N] w fun e w' => e = .returned (.bool (fitsB k N)) ∧ w = w' := by
  by_cases h1 : k = 126
  · have g1 : (k == 126) = true := by simp [h1]
    have HE := Lib.hid (show fitsB k N = true by simp [fitsB, h1])
    clear h1
    go_enter Try.func27, Try.ntmps27
    go_wp2
    go_ret
    rw [HE.out]
    exact ⟨rfl, rfl⟩
  · have g1 : (k == 126) = false := by simp [h1]
    by_cases h2 : k = 127
    · have g2 : (k == 127) = true := by simp [h2]
      by_cases h3 : N < 4294967296
      · have g3 : decide ((N : Int) < 4294967296) = true := by simp; omega
        have HE := Lib.hid (show fitsB k N = true by simp [fitsB, h2, h3])
        clear h1 h2 h3
        go_enter Try.func27, Try.ntmps27
        go_wp2
        go_ret
        rw [HE.out]
        exact ⟨rfl, rfl⟩
      · have g3 : decide ((N : Int) < 4294967296) = false := by simp; omega
        have HE := Lib.hid (show fitsB k N = false by simp [fitsB, h2, h3])
        clear h1 h2 h3
        go_enter Try.func27, Try.ntmps27
        go_wp2
        go_ret
        rw [HE.out]
        exact ⟨rfl, rfl⟩
    · have g2 : (k == 127) = false := by simp [h2]
      have HE := Lib.hid (show fitsB k N = false by simp [fitsB, h1, h2])
      clear h1 h2
      go_enter Try.func27, Try.ntmps27
      go_wp2
      go_ret
      rw [HE.out]
      exact ⟨rfl, rfl⟩

def RStRel (w0 : World) (base g n c wn : Nat) (m : List Nat) (a N : Nat) (i : Value) (wr : World) : Prop :=
  ∃ k : Nat, k ≤ wn ∧ i = .int .i64 k ∧ Hid (wr.ownsRow base 5 1 (.slice (some ⟨g, 0, none⟩) n c) n (bys (putB m a N k))) ∧ Hid (Below base w0 wr)

theorem shr_byte (N j : Nat) : (N : Int) / 2 ^ (8 * j) % 256 = ((N / 256 ^ j % 256 : Nat) : Int) := by
  rw [pow_256]
  simp

set_option maxRecDepth 100000 in
set_option maxHeartbeats 4000000 in
theorem RStore_ok (A : Option Addr) (n c addr off N wn : Nat) (op k : Int) (sg : Bool) (m : List Nat) (w : World) (hacc : acc op = some (k, (wn : Int), true, sg)) (hs : Bk.Src w A n (bys m)) (hn : n ≤ 140737488355328)
    (ha : addr ≤ 4294967295) (ho : off ≤ 4294967295) (hat : addr + off + wn ≤ n) (hfit : fitsB k N = true) :
    Calls Try.prog 21 #[.slice A n c, .int .i64 op, .int .u64 addr, .int .u64 off, .int .u64 N] w fun e w' => ∃ A' c', e = .returned (.tuple #[.slice A' n c', .int .i64 0]) ∧ w'.ownsRow w.heap.size 5 1 (.slice A' n c') n (bys (putB m (addr + off) N wn)) ∧ Below w.heap.size w w' := by
  obtain ⟨hk, hwd, _, _⟩ := acc_bounds hacc
  have hw1 : 1 ≤ wn := by omega
  have hw8 : wn ≤ 8 := by omega
  have HT := Lib.hid (show accTuple op = .tuple #[.int .i64 k, .int .i64 wn, .bool true, .bool true] by simp [accTuple, hacc])
  have hins : insB n (addr + off) wn = true := by simp [insB]; omega
  have g1 : decide (4294967295 < (addr : Int)) = false := by simp; omega
  have g2 : decide (4294967295 < (off : Int)) = false := by simp; omega
  have HS := Lib.hid hs
  clear hacc hs hk hwd
  go_enter Try.func21, Try.ntmps21
  go_wp2_with fail
  refine (refAccess_any _ _).mono ?_
  rintro e w1 ⟨rfl, rfl⟩
  rw [HT.out]
  go_wp2_with fail
  refine (fits_any _ _ _).mono ?_
  rintro e w1 ⟨rfl, rfl⟩
  rw [hfit]
  go_wp2_with fail
  refine (refInside_any _ n c (addr + off) wn _ hn).mono ?_
  rintro e w1 ⟨rfl, rfl⟩
  rw [hins]
  go_wp2_with (at_builtin; refine append_copy _ rfl _ (.tmp 53) 22 rfl 5 (.int .u8 0) 1 Try.underlying22 info5 rfl rfl A n c (bys m) rfl HS.out (bys_one _) (by unfold maxLen; omega) (by omega) ?_)
  rintro v w2 ho2 hb2
  obtain ⟨g, c2, rfl, hg1, hg2, _⟩ := own_at ho2 (by omega)
  have HO2 := Lib.hid ho2
  have HB2 := Lib.hid (Below.refl w.heap.size w2)
  have HBW := Lib.hid hb2
  clear ho2 hb2
  go_wp2_with fail
  go_loopw [17] (fun i wr => RStRel w2 w.heap.size g n c2 wn m (addr + off) N i wr) (fun i _ => wn + 1 - (intOf i).toNat)
  case atStart => exact ⟨0, by omega, rfl, HO2, HB2⟩
  case round =>
    clear HO2
    obtain ⟨j, hj, rfl, HOJ, HBJ⟩ := hrel
    by_cases hlt : j < wn
    · have hlt' : decide ((j : Int) < (wn : Int)) = true := by simpa using hlt
      have hfro : wr.frozen? ⟨g, addr + off + j, none⟩ = false := HOJ.out.frozenAt _
      obtain ⟨v, hcell⟩ : ∃ v, wr.cell? ⟨g, addr + off + j, none⟩ = some v := by
        have hl := HOJ.out.1
        rw [HOJ.out.cellAt (addr + off + j) (by omega)]
        exact ⟨_, List.getElem?_eq_getElem (by omega)⟩
      go_wp2
      refine ⟨⟨j + 1, by omega, by simp, ?_, Lib.hid (HBJ.out.setCell (p := ⟨g, addr + off + j, none⟩) hg2 _)⟩, by simp [intOf]; omega⟩
      refine Lib.hid ?_
      rw [putB, ← bys_set, shr_byte]
      exact (HOJ.out.stored (addr + off + j) (.int .u8 ((N / 256 ^ j % 256 : Nat) : Int))).1
    · obtain rfl : j = wn := by omega
      go_wp2
      go_ret2
      exact ⟨_, _, rfl, HOJ.out, HBW.out.trans HBJ.out⟩

set_option maxRecDepth 100000 in
set_option maxHeartbeats 4000000 in
theorem refStore_any (A : Option Addr) (n c addr off N : Nat) (op : Int) (m : List Nat) (w : World) (hs : Bk.Src w A n (bys m)) (hn : n ≤ 140737488355328) :
    Calls Try.prog 21 #[.slice A n c, .int .i64 op, .int .u64 addr, .int .u64 off, .int .u64 N] w fun e w' => ∃ A' c', e = .returned (.tuple #[.slice A' (storeM m op addr off N).length c', .int .i64 (storeE n op addr off N)]) ∧
      w'.ownsRow w.heap.size 5 1 (.slice A' (storeM m op addr off N).length c') (storeM m op addr off N).length (bys (storeM m op addr off N)) ∧ Below w.heap.size w w' := by
  have hm : m.length = n := by have := hs.1; rwa [bys_len] at this
  have bad : ∀ E : Int, E ≠ 0 → storeE n op addr off N = E → ∀ (w' : World) (tm : Array Value), tm.getD 10 undef = .slice none 0 0 → tm.getD 11 undef = .int .i64 E → Below w.heap.size w w' →
      bodyPost Try.prog Try.f21 (fun e w' => ∃ A' c', e = .returned (.tuple #[.slice A' (storeM m op addr off N).length c', .int .i64 (storeE n op addr off N)]) ∧
        w'.ownsRow w.heap.size 5 1 (.slice A' (storeM m op addr off N).length c') (storeM m op addr off N).length (bys (storeM m op addr off N)) ∧ Below w.heap.size w w') Exit.ret { tmps := tm, defers := [] } w' := by
    intro E hE hst w' tm e1 e2 hb
    have hM : storeM m op addr off N = [] := by rw [storeM, hm, hst, if_neg hE]
    refine bodyPost_ret (results_tmp2 (t := 10) (u := 11) rfl _ _ _) rfl ⟨none, 0, ?_, ?_, hb⟩
    · rw [hM, hst]
      show Ending.returned (.tuple #[tm.getD 10 undef, tm.getD 11 undef]) = _
      rw [e1, e2]
      rfl
    · rw [hM]
      exact World.ownsRow_nil _ _ _ _
  cases hacc : acc op with
  | none =>
    have HV := Lib.hid (show storeE n op addr off N = 1 by simp [storeE, hacc])
    have HT := Lib.hid (show accTuple op = .tuple #[.int .i64 0, .int .i64 0, .bool false, .bool false] by simp [accTuple, hacc])
    clear hacc hs hm
    go_enter Try.func21, Try.ntmps21
    go_wp2_with fail
    refine (refAccess_any _ _).mono ?_
    rintro e w1 ⟨rfl, rfl⟩
    rw [HT.out]
    go_wp2
    exact bad 1 (by decide) HV.out _ _ rfl rfl (Below.refl _ _)
  | some r =>
    obtain ⟨k, wd, st, sg⟩ := r
    obtain ⟨hk, hwd, _, _⟩ := acc_bounds hacc
    obtain ⟨wn, rfl⟩ := Int.eq_ofNat_of_zero_le (show 0 ≤ wd by omega)
    have HT := Lib.hid (show accTuple op = .tuple #[.int .i64 k, .int .i64 wn, .bool st, .bool true] by simp [accTuple, hacc])
    cases st with
    | false =>
      have HV := Lib.hid (show storeE n op addr off N = 1 by simp [storeE, hacc])
      clear hacc hs hm
      go_enter Try.func21, Try.ntmps21
      go_wp2_with fail
      refine (refAccess_any _ _).mono ?_
      rintro e w1 ⟨rfl, rfl⟩
      rw [HT.out]
      go_wp2
      exact bad 1 (by decide) HV.out _ _ rfl rfl (Below.refl _ _)
    | true =>
      have hke : k = 127 ∨ k = 126 := by omega
      by_cases h32 : 4294967295 < addr ∨ 4294967295 < off
      · have HV := Lib.hid (show storeE n op addr off N = 1 by simp [storeE, hacc, placeV, h32])
        clear hacc hs hm
        by_cases h1 : 4294967295 < addr
        · have g1 : decide (4294967295 < (addr : Int)) = true := by simp; omega
          clear h32 hke hk hwd
          go_enter Try.func21, Try.ntmps21
          go_wp2_with fail
          refine (refAccess_any _ _).mono ?_
          rintro e w1 ⟨rfl, rfl⟩
          rw [HT.out]
          go_wp2
          exact bad 1 (by decide) HV.out _ _ rfl rfl (Below.refl _ _)
        · have g1 : decide (4294967295 < (addr : Int)) = false := by simp; omega
          have g2 : decide (4294967295 < (off : Int)) = true := by simp; omega
          clear h32 hke hk hwd
          go_enter Try.func21, Try.ntmps21
          go_wp2_with fail
          refine (refAccess_any _ _).mono ?_
          rintro e w1 ⟨rfl, rfl⟩
          rw [HT.out]
          go_wp2
          exact bad 1 (by decide) HV.out _ _ rfl rfl (Below.refl _ _)
      · have g1 : decide (4294967295 < (addr : Int)) = false := by simp; omega
        have g2 : decide (4294967295 < (off : Int)) = false := by simp; omega
        have ha : addr ≤ 4294967295 := by omega
        have ho : off ≤ 4294967295 := by omega
        cases hf : fitsB k N with
        | false =>
          have hf' : k = 127 ∧ 4294967295 < N := by simp [fitsB] at hf; omega
          have HV := Lib.hid (show storeE n op addr off N = 1 by simp [storeE, hacc, hf'])
          clear hacc hs hm h32 hke hk hwd hf'
          go_enter Try.func21, Try.ntmps21
          go_wp2_with fail
          refine (refAccess_any _ _).mono ?_
          rintro e w1 ⟨rfl, rfl⟩
          rw [HT.out]
          go_wp2_with fail
          refine (fits_any _ _ _).mono ?_
          rintro e w1 ⟨rfl, rfl⟩
          rw [hf]
          go_wp2
          exact bad 1 (by decide) HV.out _ _ rfl rfl (Below.refl _ _)
        | true =>
          have hf' : ¬ (k = 127 ∧ 4294967295 < N) := by simp [fitsB] at hf; omega
          cases hi : insB n (addr + off) wn with
          | true =>
            have hp : (placeV n wn addr off).2 = 0 := by simp [placeV, h32, hi]
            obtain ⟨_, hp2, _, _⟩ := placeV_ok hp
            have hE : storeE n op addr off N = 0 := by simp [storeE, hacc, hf', hp]
            have hM : storeM m op addr off N = putB m (addr + off) N wn := by simp [storeM, hm, hE, wdOf, hacc]
            have hL : (storeM m op addr off N).length = n := by rw [hM, putB_len, hm]
            rw [hL, hM, hE]
            exact RStore_ok A n c addr off N wn op k sg m w hacc hs hn ha ho (by simpa using hp2) hf
          | false =>
            have HV := Lib.hid (show storeE n op addr off N = 35 by simp [storeE, hacc, hf', placeV, h32, hi])
            have hw8 : wn ≤ 8 := by omega
            clear hacc hs hm h32 hke hk hwd hf'
            go_enter Try.func21, Try.ntmps21
            go_wp2_with fail
            refine (refAccess_any _ _).mono ?_
            rintro e w1 ⟨rfl, rfl⟩
            rw [HT.out]
            go_wp2_with fail
            refine (fits_any _ _ _).mono ?_
            rintro e w1 ⟨rfl, rfl⟩
            rw [hf]
            go_wp2_with fail
            refine (refInside_any _ n c (addr + off) wn _ hn).mono ?_
            rintro e w1 ⟨rfl, rfl⟩
            rw [hi]
            go_wp2
            exact bad 35 (by decide) HV.out _ _ rfl rfl (Below.refl _ _)
end Go.Proofs.Ytbopbipbbaempaa
