/-
  What slices.Clone, leb.PutU and leb.PutS answer: the bytes that were handed in, and behind them the groups of the number; nothing that was there has turned.
  Conditions: the slices are within the row's own reach.
-/
import Derived.Test.YtlfbmpbnmakacaaRows
import Derived.Test.YtlfbmpbnmakacaaBase
import Derived.Test.YtlfbmpbnmakacaaPlain
namespace Go.Proofs.Ytlfbmpbnmakacaa
open Go.RowKit Go.Bk Go.Bk.Leb

theorem info5 : (Try.prog.info? 5).map (fun i => (i.zero, i.size, i.bytes)) = some (some (.int .u8 0), 1, 1) := by kernel_rfl

set_option maxHeartbeats 400000 in
theorem clone_any (A : Option Addr) (n c : Nat) (l : List Nat) (w : World) (hs : Src w A n (bys l)) (hA : A = none → n = 0 ∧ c = 0) (hn : n ≤ 140737488355328) :
    Calls Try.prog 31 #[.slice A n c] w fun e w' => ∃ v, e = .returned v ∧ w'.ownsRow w.heap.size 5 1 v n (bys l) ∧ Below w.heap.size w w' := by
  have q := fun (w : World) (a : Option Addr) (n c n' c' : Nat) => Lib.run_eql_slice_nil (P := Try.prog) w 23 5 a n c n' c' Try.underlying23
  rcases A with _ | ad
  · obtain ⟨rfl, rfl⟩ := hA rfl
    have hl : bys l = [] := List.eq_nil_of_length_eq_zero hs.1
    have H := Lib.hid hl
    clear hl
    go_enter Try.func31, Try.ntmps31
    go_wp2
    go_ret
    refine ⟨_, rfl, ?_, Below.refl _ _⟩
    rw [H.out]
    exact World.ownsRow_nil _ _ _ _
  · have h0 : (w.alloc (.cells #[] 5)).ownsRow w.heap.size 5 1 (.slice (some ⟨w.heap.size, 0, none⟩) 0 0) 0 [] := World.ownsRow_made w #[] 0 (Nat.le_refl _) (by simp [maxLen]) rfl
    have hb : Below w.heap.size w (w.alloc (.cells #[] 5)) := (Below.refl _ _).alloc (Nat.le_refl _) _
    have hs1 := hs.below hb (Nat.le_refl _)
    go_enter Try.func31, Try.ntmps31
    go_wp2_with (at_builtin; refine append_src _ rfl _ _ 23 rfl w.heap.size 5 _ 1 Try.underlying23 info5 rfl _ 0 [] rfl h0 (some ad) n c (bys l) rfl hs1 (bys_one l) (by simp [maxLen]; omega) (by omega) (by simp) ?_)
    intro v w1 h1 h2
    go_wp2
    go_ret
    refine ⟨_, rfl, by simpa using h1, below_append hb h2 h0 (Nat.le_refl _) (by simp)⟩

theorem byte_or (q : Int) : bits .or .u8 (q % 256) 128 = (((q % 128).toNat + 128 : Nat) : Int) := by
  have h : ∀ x : Fin 256, bits .or .u8 ((x.val : Nat) : Int) 128 = ((x.val % 128 + 128 : Nat) : Int) := by decide +kernel
  have h1 := h ⟨(q % 256).toNat, by omega⟩
  simp only at h1
  rw [show (((q % 256).toNat : Nat) : Int) = q % 256 from by omega] at h1
  rw [h1]
  omega
theorem byte_and (q : Int) : bits .and .u8 (q % 256) 127 = (((q % 128).toNat : Nat) : Int) := by
  have h : ∀ x : Fin 256, bits .and .u8 ((x.val : Nat) : Int) 127 = ((x.val % 128 : Nat) : Int) := by decide +kernel
  have h1 := h ⟨(q % 256).toNat, by omega⟩
  simp only at h1
  rw [show (((q % 256).toNat : Nat) : Int) = q % 256 from by omega] at h1
  rw [h1]
  omega

set_option maxHeartbeats 400000 in
theorem lastU_any (n : Int) (w : World) (_h0 : 0 ≤ n) (_h1 : n < 18446744073709551616) :
    Calls Try.prog 22 #[.int .u64 n] w fun e w' => e = .returned (.bool (lastU n)) ∧ w = w' := by
  go_enter Try.func22, Try.ntmps22
  go_wp2
  go_ret
  exact ⟨rfl, rfl⟩

set_option maxHeartbeats 400000 in
theorem lastS_any (n : Int) (w : World) (_h0 : -9223372036854775808 ≤ n) (_h1 : n < 9223372036854775808) :
    Calls Try.prog 29 #[.int .i64 n] w fun e w' => e = .returned (.bool (lastS n)) ∧ w = w' := by
  have hl : lastS n = (n / 64 == 0 || n / 64 == -1) := rfl
  have H := Lib.hid hl
  clear hl
  go_enter Try.func29, Try.ntmps29
  go_wp2
  · rename_i h
    go_ret
    refine ⟨?_, rfl⟩
    rw [H.out, h]
    rfl
  · go_ret
    exact ⟨rfl, rfl⟩

/-- the last group -/
theorem put_end {w wr w1 : World} {l d D : List Nat} {n : Nat} {o v' : Value} {q : Int} {e : Obj} {X : Int} (hX : X = (((q % 128).toNat : Nat) : Int))
    (hD : d ++ [(q % 128).toNat] = D) (hl : l.length = n) (ho : wr.ownsRow w.heap.size 5 1 o (n + d.length) (bys (l ++ d))) (hb : Below w.heap.size w wr)
    (h1 : w1.ownsRow w.heap.size 5 1 v' (n + d.length + 1) (bys (l ++ d) ++ [.int .u8 X])) (h2 : (wr.alloc e).grownBy w1 o.ownBlock) :
    w1.ownsRow w.heap.size 5 1 v' (l ++ D).length (bys (l ++ D)) ∧ Below w.heap.size w w1 := by
  subst hD hX
  refine ⟨?_, below_append (hb.alloc hb.size e) h2 (ho.alloc e) (Nat.le_refl _) (by have := hb.size; simp; omega)⟩
  have e1 : (l ++ (d ++ [(q % 128).toNat])).length = n + d.length + 1 := by simp [hl]; omega
  have e2 : bys (l ++ (d ++ [(q % 128).toNat])) = bys (l ++ d) ++ [.int .u8 (((q % 128).toNat : Nat) : Int)] := by
    rw [← List.append_assoc, bys_app]
    rfl
  rw [e1, e2]
  exact h1

/-- one group more -/
theorem put_more {w wr w1 : World} {l d : List Nat} {n : Nat} {o v' : Value} {q : Int} {e : Obj} {X : Int} (hX : X = (((q % 128).toNat + 128 : Nat) : Int))
    (ho : wr.ownsRow w.heap.size 5 1 o (n + d.length) (bys (l ++ d))) (hb : Below w.heap.size w wr)
    (h1 : w1.ownsRow w.heap.size 5 1 v' (n + d.length + 1) (bys (l ++ d) ++ [.int .u8 X])) (h2 : (wr.alloc e).grownBy w1 o.ownBlock) :
    w1.ownsRow w.heap.size 5 1 v' (n + (d ++ [(q % 128).toNat + 128]).length) (bys (l ++ (d ++ [(q % 128).toNat + 128]))) ∧ Below w.heap.size w w1 := by
  subst hX
  refine ⟨?_, below_append (hb.alloc hb.size e) h2 (ho.alloc e) (Nat.le_refl _) (by have := hb.size; simp; omega)⟩
  have e1 : n + (d ++ [(q % 128).toNat + 128]).length = n + d.length + 1 := by simp; omega
  have e2 : bys (l ++ (d ++ [(q % 128).toNat + 128])) = bys (l ++ d) ++ [.int .u8 (((q % 128).toNat + 128 : Nat) : Int)] := by
    rw [← List.append_assoc, bys_app]
    rfl
  rw [e1, e2]
  exact h1

set_option maxHeartbeats 800000 in
theorem putU_any (A : Option Addr) (n c : Nat) (l : List Nat) (m : Int) (w : World) (hs : Src w A n (bys l)) (hA : A = none → n = 0 ∧ c = 0) (hn : n ≤ 140737488355300) (hfit : FitU 9 m) :
    Calls Try.prog 21 #[.slice A n c, .int .u64 m, .func (.func 22) #[] #[]] w fun e w' => ∃ v, e = .returned v ∧ w'.ownsRow w.heap.size 5 1 v (l ++ putU m).length (bys (l ++ putU m)) ∧ Below w.heap.size w w' := by
  have hl : l.length = n := by rw [← hs.1, bys_len]
  have HL := Lib.hid hl
  clear hl
  have HA := Lib.hid hA
  clear hA
  go_enter Try.func21, Try.ntmps21
  go_wp2_with fail
  refine (clone_any A n c l _ hs HA.out (by omega)).mono ?_
  rintro e w1 ⟨v, rfl, hown, hb⟩
  go_wp2_with fail
  go_loopw [1, 7] (fun nv out wr => ∃ (k : Nat) (d : List Nat) (q : Int), k ≤ 9 ∧ d.length + k ≤ 9 ∧ FitU k q ∧ nv = .int .u64 q ∧ wr.ownsRow w.heap.size 5 1 out (n + d.length) (bys (l ++ d)) ∧ Below w.heap.size w wr ∧ Hid (d ++ putG lastU k q = putU m)) (fun nv _ _ => (intOf nv).natAbs)
  case atStart => exact ⟨9, [], m, by omega, by simp, hfit, rfl, by simpa using hown, hb, rfl⟩
  case round =>
    obtain ⟨k, d, q, hk, hd, hq, rfl, hown1, hb1, HD⟩ := hrel
    obtain ⟨hq0, hq1⟩ := hq.bound hk
    have hsz := hb1.size
    cases hlast : lastU q
    · have HLa := Lib.hid hlast
      clear hlast
      go_wp2_with fail
      refine (lastU_any _ _ hq0 hq1).mono ?_
      rintro e w2 ⟨rfl, rfl⟩
      rw [HLa.out]
      go_wp2_with (at_builtin; refine append_src _ rfl _ _ 23 rfl w.heap.size 5 _ 1 Try.underlying23 info5 rfl _ (n + d.length) (bys (l ++ d)) rfl (hown1.alloc _) (some ⟨wr.heap.size, 0, none⟩) 1 1 [_] rfl (src_one _ _ _) ?_ ?_ ?_ ?_ ?_)
      · simp [Value.oneCell']
      · unfold maxLen; omega
      · omega
      · simp; omega
      · intro v' w3 h1 h2
        obtain ⟨h3, h4⟩ := put_more (byte_or q) hown1 hb1 h1 h2
        clear h1 h2 hown1 hb1
        obtain ⟨j, hj, hf⟩ := hq.step HLa.out
        have HJ := Lib.hid hj
        clear hj
        go_wp2
        go_roundw
        case rel =>
          refine ⟨j, d ++ [(q % 128).toNat + 128], q / 128, by have := HJ.out; omega, by have := HJ.out; simp; omega, hf, rfl, h3, h4, ?_⟩
          have e := HD.out
          rw [HJ.out, putG_go HLa.out] at e
          unfold Hid
          rw [← e]
          simp
        case measure => exact natAbs_lt_U hq0 HLa.out
    · have HLa := Lib.hid hlast
      clear hlast
      go_wp2_with fail
      refine (lastU_any _ _ hq0 hq1).mono ?_
      rintro e w2 ⟨rfl, rfl⟩
      rw [HLa.out]
      go_wp2_with (at_builtin; refine append_src _ rfl _ _ 23 rfl w.heap.size 5 _ 1 Try.underlying23 info5 rfl _ (n + d.length) (bys (l ++ d)) rfl (hown1.alloc _) (some ⟨wr.heap.size, 0, none⟩) 1 1 [_] rfl (src_one _ _ _) ?_ ?_ ?_ ?_ ?_)
      · simp [Value.oneCell']
      · unfold maxLen; omega
      · omega
      · simp; omega
      · intro v' w3 h1 h2
        have e := HD.out
        rw [putG_stop HLa.out] at e
        obtain ⟨h3, h4⟩ := put_end (byte_and q) e HL.out hown1 hb1 h1 h2
        clear h1 h2 hown1 hb1 e
        go_wp2
        go_ret
        exact ⟨_, rfl, h3, h4⟩

set_option maxHeartbeats 400000 in
theorem PutU_any (A : Option Addr) (n c : Nat) (l : List Nat) (m : Int) (w : World) (hs : Src w A n (bys l)) (hA : A = none → n = 0 ∧ c = 0) (hn : n ≤ 140737488355300) (hfit : FitU 9 m) :
    Calls Try.prog 10 #[.slice A n c, .int .u64 m] w fun e w' => ∃ v, e = .returned v ∧ w'.ownsRow w.heap.size 5 1 v (l ++ putU m).length (bys (l ++ putU m)) ∧ Below w.heap.size w w' := by
  go_enter Try.func10, Try.ntmps10
  go_wp2_with fail
  refine (putU_any A n c l m _ hs hA hn hfit).mono ?_
  rintro e w1 ⟨v, rfl, hown, hb⟩
  go_wp2
  go_ret
  exact ⟨_, rfl, hown, hb⟩

set_option maxHeartbeats 800000 in
theorem putS_any (A : Option Addr) (n c : Nat) (l : List Nat) (m : Int) (w : World) (hs : Src w A n (bys l)) (hA : A = none → n = 0 ∧ c = 0) (hn : n ≤ 140737488355300) (hfit : FitS 9 m) :
    Calls Try.prog 28 #[.slice A n c, .int .i64 m, .func (.func 29) #[] #[]] w fun e w' => ∃ v, e = .returned v ∧ w'.ownsRow w.heap.size 5 1 v (l ++ putS m).length (bys (l ++ putS m)) ∧ Below w.heap.size w w' := by
  have hl : l.length = n := by rw [← hs.1, bys_len]
  have HL := Lib.hid hl
  clear hl
  have HA := Lib.hid hA
  clear hA
  go_enter Try.func28, Try.ntmps28
  go_wp2_with fail
  refine (clone_any A n c l _ hs HA.out (by omega)).mono ?_
  rintro e w1 ⟨v, rfl, hown, hb⟩
  go_wp2_with fail
  go_loopw [1, 7] (fun nv out wr => ∃ (k : Nat) (d : List Nat) (q : Int), k ≤ 9 ∧ d.length + k ≤ 9 ∧ FitS k q ∧ nv = .int .i64 q ∧ wr.ownsRow w.heap.size 5 1 out (n + d.length) (bys (l ++ d)) ∧ Below w.heap.size w wr ∧ Hid (d ++ putG lastS k q = putS m)) (fun nv _ _ => (intOf nv).natAbs)
  case atStart => exact ⟨9, [], m, by omega, by simp, hfit, rfl, by simpa using hown, hb, rfl⟩
  case round =>
    obtain ⟨k, d, q, hk, hd, hq, rfl, hown1, hb1, HD⟩ := hrel
    obtain ⟨hq0, hq1⟩ := hq.bound hk
    have hsz := hb1.size
    cases hlast : lastS q
    · have HLa := Lib.hid hlast
      clear hlast
      go_wp2_with fail
      refine (lastS_any _ _ hq0 hq1).mono ?_
      rintro e w2 ⟨rfl, rfl⟩
      rw [HLa.out]
      go_wp2_with (at_builtin; refine append_src _ rfl _ _ 23 rfl w.heap.size 5 _ 1 Try.underlying23 info5 rfl _ (n + d.length) (bys (l ++ d)) rfl (hown1.alloc _) (some ⟨wr.heap.size, 0, none⟩) 1 1 [_] rfl (src_one _ _ _) ?_ ?_ ?_ ?_ ?_)
      · simp [Value.oneCell']
      · unfold maxLen; omega
      · omega
      · simp; omega
      · intro v' w3 h1 h2
        obtain ⟨h3, h4⟩ := put_more (byte_or q) hown1 hb1 h1 h2
        clear h1 h2 hown1 hb1
        obtain ⟨j, hj, hf⟩ := hq.step HLa.out
        have HJ := Lib.hid hj
        clear hj
        go_wp2
        go_roundw
        case rel =>
          refine ⟨j, d ++ [(q % 128).toNat + 128], q / 128, by have := HJ.out; omega, by have := HJ.out; simp; omega, hf, rfl, h3, h4, ?_⟩
          have e := HD.out
          rw [HJ.out, putG_go HLa.out] at e
          unfold Hid
          rw [← e]
          simp
        case measure => exact natAbs_lt_S  HLa.out
    · have HLa := Lib.hid hlast
      clear hlast
      go_wp2_with fail
      refine (lastS_any _ _ hq0 hq1).mono ?_
      rintro e w2 ⟨rfl, rfl⟩
      rw [HLa.out]
      go_wp2_with (at_builtin; refine append_src _ rfl _ _ 23 rfl w.heap.size 5 _ 1 Try.underlying23 info5 rfl _ (n + d.length) (bys (l ++ d)) rfl (hown1.alloc _) (some ⟨wr.heap.size, 0, none⟩) 1 1 [_] rfl (src_one _ _ _) ?_ ?_ ?_ ?_ ?_)
      · simp [Value.oneCell']
      · unfold maxLen; omega
      · omega
      · simp; omega
      · intro v' w3 h1 h2
        have e := HD.out
        rw [putG_stop HLa.out] at e
        obtain ⟨h3, h4⟩ := put_end (byte_and q) e HL.out hown1 hb1 h1 h2
        clear h1 h2 hown1 hb1 e
        go_wp2
        go_ret
        exact ⟨_, rfl, h3, h4⟩

set_option maxHeartbeats 400000 in
theorem PutS_any (A : Option Addr) (n c : Nat) (l : List Nat) (m : Int) (w : World) (hs : Src w A n (bys l)) (hA : A = none → n = 0 ∧ c = 0) (hn : n ≤ 140737488355300) (hfit : FitS 9 m) :
    Calls Try.prog 16 #[.slice A n c, .int .i64 m] w fun e w' => ∃ v, e = .returned v ∧ w'.ownsRow w.heap.size 5 1 v (l ++ putS m).length (bys (l ++ putS m)) ∧ Below w.heap.size w w' := by
  go_enter Try.func16, Try.ntmps16
  go_wp2_with fail
  refine (putS_any A n c l m _ hs hA hn hfit).mono ?_
  rintro e w1 ⟨v, rfl, hown, hb⟩
  go_wp2
  go_ret
  exact ⟨_, rfl, hown, hb⟩

end Go.Proofs.Ytlfbmpbnmakacaa
