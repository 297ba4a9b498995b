/-
  What mem.Store answers.
  Conditions: the slice is within the row's own reach.
-/
import Derived.Test.YtbopbipbbaempaaGrows
namespace Go.Proofs.Ytbopbipbbaempaa
open Go.RowKit Go.Bk Go.Bk.Mem Go.Shelf

/-- i bytes of N are put from place a on -/
def putB (m : List Nat) (a N : Nat) : Nat → List Nat
  | 0 => m
  | i + 1 => (putB m a N i).set (a + i) (N / 256 ^ i % 256)
theorem putB_len (m : List Nat) (a N : Nat) : ∀ i, (putB m a N i).length = m.length
  | 0 => rfl
  | i + 1 => by rw [putB, List.length_set, putB_len m a N i]
theorem putB_all {m : List Nat} (h : AllB m) (a N : Nat) : ∀ i, AllB (putB m a N i)
  | 0 => h
  | i + 1 => fun x hx => by
    rw [putB] at hx
    rcases List.mem_or_eq_of_mem_set hx with h1 | h1
    · exact putB_all h a N i x h1
    · omega

/-- why a store is refused; 0 if not -/
def storeE (n : Nat) (op : Int) (addr off N : Nat) : Int := match acc op with
  | none => 1
  | some (k, wd, st, _) => if st = false then 1 else if k = 127 ∧ 4294967295 < N then 1 else (placeV n wd addr off).2
def wdOf (op : Int) : Nat := match acc op with
  | none => 0
  | some (_, wd, _, _) => wd.toNat
/-- what is answered -/
def storeM (m : List Nat) (op : Int) (addr off N : Nat) : List Nat := if storeE m.length op addr off N = 0 then putB m (addr + off) N (wdOf op) else []

def StRel (w0 : World) (base g n c wn : Nat) (m : List Nat) (a N : Nat) (nv i : Value) (wr : World) : Prop :=
  ∃ k : Nat, k ≤ wn ∧ i = .int .i64 k ∧ nv = .int .u64 ((N / 256 ^ k : Nat) : Int) ∧ Hid (wr.ownsRow base 5 1 (.slice (some ⟨g, 0, none⟩) n c) n (bys (putB m a N k))) ∧ Hid (Below base w0 wr)

set_option maxRecDepth 100000 in
set_option maxHeartbeats 4000000 in
theorem Store_ok (A : Option Addr) (n c addr off N wn : Nat) (op k : Int) (sg : Bool) (m : List Nat) (w : World) (hacc : acc op = some (k, (wn : Int), true, sg)) (hs : Bk.Src w A n (bys m)) (hA : A = none → n = 0 ∧ c = 0) (hn : n ≤ 140737488355328)
    (ha : addr ≤ 4294967295) (ho : off ≤ 4294967295) (hN : N < 18446744073709551616) (hat : addr + off + wn ≤ n) (hp : placeV n wn addr off = (((addr + off : Nat) : Int), 0)) (hkn : ¬ (k = 127 ∧ 4294967295 < N)) :
    Calls Try.prog 20 #[.slice A n c, .int .i64 op, .int .u64 addr, .int .u64 off, .int .u64 N] w fun e w' => ∃ A' c', e = .returned (.tuple #[.slice A' n c', .int .i64 0]) ∧ w'.ownsRow w.heap.size 5 1 (.slice A' n c') n (bys (putB m (addr + off) N wn)) ∧ Below w.heap.size w w' := by
  obtain ⟨hk, hwd, _, _⟩ := acc_bounds hacc
  have hw1 : 1 ≤ wn := by omega
  have hw8 : wn ≤ 8 := by omega
  have hlk := look_some hacc
  have hml : m.length = n := by have := hs.1; rwa [bys_len] at this
  have HM := Lib.hid hml
  have HS := Lib.hid hs
  have HA := Lib.hid hA
  have HP := Lib.hid hp
  have HKN := Lib.hid hkn
  have key : (k == 127) = false ∨ ((k == 127) = true ∧ decide (4294967295 < (N : Int)) = false) := by
    by_cases h : k = 127
    · exact .inr ⟨by simp [h], by simp; omega⟩
    · exact .inl (by simp [h])
  clear hacc hs hA hp hkn hk hwd hml
  rcases key with hk1 | ⟨hk1, hk2⟩
  · go_enter Try.func20, Try.ntmps20
    go_wp2_with fail
    refine (accesses_any _).mono ?_
    rintro e w1 ⟨rfl, rfl⟩
    go_wp2_with fail
    refine (place_any _ n c addr off k wn true sg _ hn (by omega) (by omega) (by omega) (by omega)).mono ?_
    rintro e w1 ⟨rfl, hb1⟩
    rw [HP.out]
    obtain ⟨hc1, hf1⟩ := bcell hb1
    have hz1 : w.heap.size + 1 + 1 ≤ w1.heap.size := by have := hb1.size; simpa using this
    have HB1 := Lib.hid (show Below w.heap.size w w1 from (((Below.refl _ _).alloc (Nat.le_refl _) _).alloc (by simp) _).trans (hb1.mono (by simp; omega)))
    clear hb1
    have HS1 := Lib.hid (HS.out.below HB1.out (Nat.le_refl _))
    have hz2 : w.heap.size + 1 < w1.heap.size := by omega
    go_wp2_with fail
    refine (clone_any A n c m _ HS1.out HA.out hn).mono ?_
    rintro e w2 ⟨v, rfl, ho2, hb2⟩
    obtain ⟨g, c2, rfl, hg1, hg2, _⟩ := own_at ho2 (by omega)
    have hx1 := (hb2.cell (p := ⟨w.heap.size + 1, 1, none⟩) hz2).trans (hc1 (w.heap.size + 1) 1 (by simp))
    simp at hx1
    have HO2 := Lib.hid ho2
    have HB2 := Lib.hid (Below.refl w1.heap.size w2)
    have HBW := Lib.hid hb2
    clear ho2 hb2 hc1 hf1
    go_wp2_with fail
    go_loopw [4, 17, 55] (fun nv _ i wr => StRel w2 w1.heap.size g n c2 wn m (addr + off) N nv i wr) (fun _ _ i _ => wn + 1 - (intOf i).toNat)
    case atStart => exact ⟨0, by omega, rfl, by simp, HO2, HB2⟩
    case round =>
      clear HO2
      obtain ⟨j, hj, rfl, rfl, HOJ, HBJ⟩ := hrel
      have hx1' := (HBJ.out.cell (p := ⟨w.heap.size + 1, 1, none⟩) hz2).trans hx1
      by_cases hlt : j < wn
      · have hlt' : decide ((j : Int) < (wn : Int)) = true := by simpa using hlt
        have hfro : wr.frozen? ⟨g, addr + off + j, none⟩ = false := HOJ.out.frozenAt _
        obtain ⟨v, hcell⟩ : ∃ v, wr.cell? ⟨g, addr + off + j, none⟩ = some v := by
          have hl := HOJ.out.1
          rw [HOJ.out.cellAt (addr + off + j) (by omega)]
          exact ⟨_, List.getElem?_eq_getElem (by omega)⟩
        obtain ⟨x, hx⟩ : ∃ x, N / 256 ^ j = x := ⟨_, rfl⟩
        have hxb : x < 18446744073709551616 := by rw [← hx]; exact Nat.lt_of_le_of_lt (Nat.div_le_self _ _) hN
        rw [hx]
        have HX := Lib.hid hx
        clear hx
        go_wp2
        refine ⟨⟨j + 1, by omega, by simp, ?_, ?_, Lib.hid (HBJ.out.setCell (p := ⟨g, addr + off + j, none⟩) hg2 _)⟩, by simp [intOf]; omega⟩
        · rw [Nat.pow_succ, ← Nat.div_div_eq_div_mul, HX.out]
          rfl
        · refine Lib.hid ?_
          rw [putB, HX.out, ← bys_set]
          exact (HOJ.out.stored (addr + off + j) (.int .u8 ((x % 256 : Nat) : Int))).1
      · obtain rfl : j = wn := by omega
        go_wp2
        go_ret2
        exact ⟨_, _, rfl, own_mono HOJ.out HB1.out.size, HB1.out.trans ((HBW.out.trans HBJ.out).mono HB1.out.size)⟩
  · go_enter Try.func20, Try.ntmps20
    go_wp2_with fail
    refine (accesses_any _).mono ?_
    rintro e w1 ⟨rfl, rfl⟩
    go_wp2_with fail
    refine (place_any _ n c addr off k wn true sg _ hn (by omega) (by omega) (by omega) (by omega)).mono ?_
    rintro e w1 ⟨rfl, hb1⟩
    rw [HP.out]
    obtain ⟨hc1, hf1⟩ := bcell hb1
    have hz1 : w.heap.size + 1 + 1 ≤ w1.heap.size := by have := hb1.size; simpa using this
    have HB1 := Lib.hid (show Below w.heap.size w w1 from (((Below.refl _ _).alloc (Nat.le_refl _) _).alloc (by simp) _).trans (hb1.mono (by simp; omega)))
    clear hb1
    have HS1 := Lib.hid (HS.out.below HB1.out (Nat.le_refl _))
    have hz2 : w.heap.size + 1 < w1.heap.size := by omega
    go_wp2_with fail
    refine (clone_any A n c m _ HS1.out HA.out hn).mono ?_
    rintro e w2 ⟨v, rfl, ho2, hb2⟩
    obtain ⟨g, c2, rfl, hg1, hg2, _⟩ := own_at ho2 (by omega)
    have hx1 := (hb2.cell (p := ⟨w.heap.size + 1, 1, none⟩) hz2).trans (hc1 (w.heap.size + 1) 1 (by simp))
    simp at hx1
    have HO2 := Lib.hid ho2
    have HB2 := Lib.hid (Below.refl w1.heap.size w2)
    have HBW := Lib.hid hb2
    clear ho2 hb2 hc1 hf1
    go_wp2_with fail
    go_loopw [4, 17, 55] (fun nv _ i wr => StRel w2 w1.heap.size g n c2 wn m (addr + off) N nv i wr) (fun _ _ i _ => wn + 1 - (intOf i).toNat)
    case atStart => exact ⟨0, by omega, rfl, by simp, HO2, HB2⟩
    case round =>
      clear HO2
      obtain ⟨j, hj, rfl, rfl, HOJ, HBJ⟩ := hrel
      have hx1' := (HBJ.out.cell (p := ⟨w.heap.size + 1, 1, none⟩) hz2).trans hx1
      by_cases hlt : j < wn
      · have hlt' : decide ((j : Int) < (wn : Int)) = true := by simpa using hlt
        have hfro : wr.frozen? ⟨g, addr + off + j, none⟩ = false := HOJ.out.frozenAt _
        obtain ⟨v, hcell⟩ : ∃ v, wr.cell? ⟨g, addr + off + j, none⟩ = some v := by
          have hl := HOJ.out.1
          rw [HOJ.out.cellAt (addr + off + j) (by omega)]
          exact ⟨_, List.getElem?_eq_getElem (by omega)⟩
        obtain ⟨x, hx⟩ : ∃ x, N / 256 ^ j = x := ⟨_, rfl⟩
        have hxb : x < 18446744073709551616 := by rw [← hx]; exact Nat.lt_of_le_of_lt (Nat.div_le_self _ _) hN
        rw [hx]
        have HX := Lib.hid hx
        clear hx
        go_wp2
        refine ⟨⟨j + 1, by omega, by simp, ?_, ?_, Lib.hid (HBJ.out.setCell (p := ⟨g, addr + off + j, none⟩) hg2 _)⟩, by simp [intOf]; omega⟩
        · rw [Nat.pow_succ, ← Nat.div_div_eq_div_mul, HX.out]
          rfl
        · refine Lib.hid ?_
          rw [putB, HX.out, ← bys_set]
          exact (HOJ.out.stored (addr + off + j) (.int .u8 ((x % 256 : Nat) : Int))).1
      · obtain rfl : j = wn := by omega
        go_wp2
        go_ret2
        exact ⟨_, _, rfl, own_mono HOJ.out HB1.out.size, HB1.out.trans ((HBW.out.trans HBJ.out).mono HB1.out.size)⟩

set_option maxRecDepth 100000 in
set_option maxHeartbeats 4000000 in
theorem Store_any (A : Option Addr) (n c addr off N : Nat) (op : Int) (m : List Nat) (w : World) (hs : Bk.Src w A n (bys m)) (hA : A = none → n = 0 ∧ c = 0) (hn : n ≤ 140737488355328)
    (ha : addr < 18446744073709551616) (ho : off < 18446744073709551616) (hN : N < 18446744073709551616) :
    Calls Try.prog 20 #[.slice A n c, .int .i64 op, .int .u64 addr, .int .u64 off, .int .u64 N] w fun e w' => ∃ A' c', e = .returned (.tuple #[.slice A' (storeM m op addr off N).length c', .int .i64 (storeE n op addr off N)]) ∧
      w'.ownsRow w.heap.size 5 1 (.slice A' (storeM m op addr off N).length c') (storeM m op addr off N).length (bys (storeM m op addr off N)) ∧ Below w.heap.size w w' := by
  have hm : m.length = n := by have := hs.1; rwa [bys_len] at this
  have bad : ∀ E : Int, E ≠ 0 → storeE n op addr off N = E → ∀ (w' : World) (tm : Array Value), tm.getD 10 undef = .slice none 0 0 → tm.getD 11 undef = .int .i64 E → Below w.heap.size w w' →
      bodyPost Try.prog Try.f20 (fun e w' => ∃ A' c', e = .returned (.tuple #[.slice A' (storeM m op addr off N).length c', .int .i64 (storeE n op addr off N)]) ∧
        w'.ownsRow w.heap.size 5 1 (.slice A' (storeM m op addr off N).length c') (storeM m op addr off N).length (bys (storeM m op addr off N)) ∧ Below w.heap.size w w') Exit.ret { tmps := tm, defers := [] } w' := by
    intro E hE hst w' tm e1 e2 hb
    have hM : storeM m op addr off N = [] := by rw [storeM, hm, hst, if_neg hE]
    refine bodyPost_ret (results_tmp2 (t := 10) (u := 11) rfl _ _ _) rfl ⟨none, 0, ?_, ?_, hb⟩
    · rw [hM, hst]
      show Ending.returned (.tuple #[tm.getD 10 undef, tm.getD 11 undef]) = _
      rw [e1, e2]
      rfl
    · rw [hM]
      exact World.ownsRow_nil _ _ _ _
  cases hacc : acc op with
  | none =>
    have HV := Lib.hid (show storeE n op addr off N = 1 by simp [storeE, hacc])
    have hlk := look_none hacc
    clear hacc hs hm hA
    go_enter Try.func20, Try.ntmps20
    go_wp2_with fail
    refine (accesses_any _).mono ?_
    rintro e w1 ⟨rfl, rfl⟩
    go_wp2
    exact bad 1 (by decide) HV.out _ _ rfl rfl (((Below.refl _ _).alloc (Nat.le_refl _) _).alloc (by simp) _)
  | some r =>
    obtain ⟨k, wd, st, sg⟩ := r
    obtain ⟨hk, hwd, _, _⟩ := acc_bounds hacc
    cases st with
    | false =>
      have HV := Lib.hid (show storeE n op addr off N = 1 by simp [storeE, hacc])
      have hlk := look_some hacc
      clear hacc hs hm hA
      go_enter Try.func20, Try.ntmps20
      go_wp2_with fail
      refine (accesses_any _).mono ?_
      rintro e w1 ⟨rfl, rfl⟩
      go_wp2
      exact bad 1 (by decide) HV.out _ _ rfl rfl (((Below.refl _ _).alloc (Nat.le_refl _) _).alloc (by simp) _)
    | true =>
      by_cases hkn : k = 127 ∧ 4294967295 < N
      · have HV := Lib.hid (show storeE n op addr off N = 1 by simp [storeE, hacc, hkn])
        have hlk := look_some hacc
        have g1 : (k == 127) = true := by simp [hkn.1]
        have g2 : decide (4294967295 < (N : Int)) = true := by simp; omega
        clear hacc hs hm hA hkn
        go_enter Try.func20, Try.ntmps20
        go_wp2_with fail
        refine (accesses_any _).mono ?_
        rintro e w1 ⟨rfl, rfl⟩
        go_wp2
        exact bad 1 (by decide) HV.out _ _ rfl rfl (((Below.refl _ _).alloc (Nat.le_refl _) _).alloc (by simp) _)
      · by_cases hp : (placeV n wd addr off).2 = 0
        · obtain ⟨hp1, hp2, hp3, hp4⟩ := placeV_ok hp
          have hE : storeE n op addr off N = 0 := by simp [storeE, hacc, hkn, hp]
          obtain ⟨wn, rfl⟩ := Int.eq_ofNat_of_zero_le (show 0 ≤ wd by omega)
          have hM : storeM m op addr off N = putB m (addr + off) N wn := by simp [storeM, hm, hE, wdOf, hacc]
          have hL : (storeM m op addr off N).length = n := by rw [hM, putB_len, hm]
          rw [hL, hM, hE]
          exact Store_ok A n c addr off N wn op k sg m w hacc hs hA hn hp3 hp4 hN (by simpa using hp2) hp1 hkn
        · have HV := Lib.hid (show storeE n op addr off N = (placeV n wd addr off).2 by simp [storeE, hacc, hkn])
          have hpe : ((placeV n wd addr off).2 != 0) = true := by simpa using hp
          have hlk := look_some hacc
          have HP := Lib.hid hp
          have key : (k == 127) = false ∨ ((k == 127) = true ∧ decide (4294967295 < (N : Int)) = false) := by
            by_cases h : k = 127
            · exact .inr ⟨by simp [h], by simp; omega⟩
            · exact .inl (by simp [h])
          clear hacc hs hm hp hA hkn
          rcases key with hk1 | ⟨hk1, hk2⟩
          all_goals
            go_enter Try.func20, Try.ntmps20
            go_wp2_with fail
            refine (accesses_any _).mono ?_
            rintro e w1 ⟨rfl, rfl⟩
            go_wp2_with fail
            refine (place_any _ n c addr off k wd true sg _ hn (by omega) (by omega) ha ho).mono ?_
            rintro e w1 ⟨rfl, hb1⟩
            go_wp2
            exact bad _ HP.out HV.out _ _ rfl rfl ((((Below.refl _ _).alloc (Nat.le_refl _) _).alloc (by simp) _).trans (hb1.mono (by simp; omega)))
end Go.Proofs.Ytbopbipbbaempaa
