/-
  The statement LebPadded: groups of 0 put behind a number turn nothing of it, as long as there is room: the law answers true at every input.
  Conditions: none.
-/
import Derived.Test.YtlfbmpbnmakacaaAlive
import Derived.Test.YtlfbmpbnmakacaaPlain2
namespace Go.Proofs.Ytlfbmpbnmakacaa
open Go.RowKit Go.Bk Go.Bk.Leb

/-- a number's groups, read at their place -/
theorem readV_groups (k : IntKind) (may : Nat → Nat → Bool) (val : Nat → Nat → Int) (pre init rest : List Nat) (c size : Nat) (hs : size = 32 ∨ size = 64) (hg : Goes init) (hc : c < 128) :
    readV k may val (pre ++ (init ++ c :: rest)) pre.length size =
      if init.length < most size ∨ init.length = most size ∧ may size c = true then .tuple #[.int k (val (uval (init ++ [c])) (init.length + 1)), .int .i64 ((pre.length + (init.length + 1) : Nat) : Int), faultV 0 0]
      else .tuple #[.int k 0, .int .i64 0, faultV 3 ((pre.length + most size : Nat) : Int)] := by
  unfold readV
  rw [if_neg (by simp; omega), Int.toNat_natCast, Int.toNat_natCast, List.drop_left, rd_groups (may size) (most size) c rest hc init 0 0 hg (Nat.zero_le _)]
  simp only [Nat.zero_add, Nat.pow_zero, Nat.mul_one]
  split <;> rfl

theorem natV_of {N j : Nat} (h : N < 18446744073709551616) : natV N j = N := by
  unfold natV
  rw [Nat.mod_eq_of_lt h]

theorem or128 {c : Nat} (hc : c < 128) : bits .or .u8 (c : Int) 128 = ((c + 128 : Nat) : Int) := by
  have h : ∀ x : Fin 128, bits .or .u8 ((x.val : Nat) : Int) 128 = ((x.val + 128 : Nat) : Int) := by decide +kernel
  exact h ⟨c, hc⟩

theorem pad_val (init : List Nat) (c : Nat) : uval ((init ++ [c + 128]) ++ [0]) = uval (init ++ [c]) := by
  rw [List.append_assoc, uval_app, uval_app init [c]]
  simp [uval]

theorem src_one_at {w : World} {N : Nat} (h : w.heap.size = N) (v : Value) (e : TypeId) : Src (w.alloc (.cells #[v] e)) (some ⟨N, 0, none⟩) 1 [v] := by
  subst h
  exact src_one w v e

theorem Goes.snoc {init : List Nat} {c : Nat} (h : Goes init) (hc : c < 128) : Goes (init ++ [c + 128]) := by
  intro x hx
  rcases List.mem_append.1 hx with hx | hx
  · exact h x hx
  · simp at hx
    omega

theorem Goes.all {init : List Nat} {c : Nat} (h : Goes init) (hc : c < 128) : AllB (init ++ [c]) := by
  intro x hx
  rcases List.mem_append.1 hx with hx | hx
  · exact (h x hx).2
  · simp at hx
    omega

theorem top_le (init : List Nat) (c : Nat) (hc : c < 128) : c * 128 ^ init.length ≤ uval (init ++ [c]) := by
  rw [uval_app]
  simp only [uval, Nat.mul_zero, Nat.add_zero]
  rw [show c % 128 = c from by omega, Nat.mul_comm]
  omega

/-- the loop's relation: j groups were put behind -/
def PadRel (w : World) (n len0 k0 : Nat) (bv i : Value) (wr : World) : Prop :=
  ∃ (j K : Nat) (init : List Nat) (c cap g : Nat), j ≤ k0 ∧ K ≤ len0 + j ∧ len0 + j ≤ K ∧ c < 128 ∧ Goes init ∧ Hid (init.length = K ∧ uval (init ++ [c]) = n) ∧ i = .int .i64 j ∧
    bv = .slice (some ⟨g, 0, none⟩) (K + 1) cap ∧ wr.ownsRow w.heap.size 5 1 (.slice (some ⟨g, 0, none⟩) (K + 1) cap) (K + 1) (bys (init ++ [c])) ∧ Below w.heap.size w wr

theorem pad_round {w wr w2 : World} {K c cap g : Nat} {init : List Nat} {v' : Value} {X : Int} {e : Obj} (hX : X = ((c + 128 : Nat) : Int)) (hK : init.length = K)
    (ho : wr.ownsRow w.heap.size 5 1 (.slice (some ⟨g, 0, none⟩) (K + 1) cap) (K + 1) (bys (init ++ [c]))) (hb : Below w.heap.size w wr)
    (h1 : w2.ownsRow w.heap.size 5 1 v' (K + 1 + 1) ((bys (init ++ [c])).set K (.int .u8 X) ++ [.int .u8 0]))
    (h2 : ((wr.setCell ⟨g, K, none⟩ (.int .u8 X)).alloc e).grownBy w2 (Value.slice (some ⟨g, 0, none⟩) (K + 1) cap).ownBlock) :
    ∃ g' cap', v' = .slice (some ⟨g', 0, none⟩) (K + 1 + 1) cap' ∧ w2.ownsRow w.heap.size 5 1 (.slice (some ⟨g', 0, none⟩) (K + 1 + 1) cap') (K + 1 + 1) (bys ((init ++ [c + 128]) ++ [0])) ∧ Below w.heap.size w w2 := by
  subst hX
  have e1 : (bys (init ++ [c])).set K (.int .u8 ((c + 128 : Nat) : Int)) ++ [.int .u8 0] = bys ((init ++ [c + 128]) ++ [0]) := by
    rw [bys_set, bys_app, ← hK]
    congr 2
    simp
  rw [e1] at h1
  have hst := ho.stored K (.int .u8 ((c + 128 : Nat) : Int))
  have hg := (ho.lt g rfl).1
  have hsz := hb.size
  rcases h1.2 with ⟨_, h⟩ | ⟨g', cap', cur, rfl, r⟩
  · omega
  · exact ⟨g', cap', rfl, h1, below_append ((hb.setCell (p := ⟨g, K, none⟩) hg _).alloc (by simp; omega) e) h2 (hst.1.alloc e) (Nat.le_refl _) (by simp; omega)⟩

set_option maxRecDepth 100000 in
set_option maxHeartbeats 2000000 in
theorem padded_any (n : Nat) (more : Int) (w : World) (hn : n < 4294967296) :
    Calls Try.prog 3 #[.int .u32 n, .int .i64 more] w fun e w' => e = .returned (.bool true) ∧ Below w.heap.size w w' := by
  obtain ⟨k0, hk0, hk5⟩ : ∃ k : Nat, (more.tmod 6 + 6) % 6 = (k : Int) ∧ k ≤ 5 := ⟨((more.tmod 6 + 6) % 6).toNat, by omega, by omega⟩
  have hm1 : -5 ≤ more.tmod 6 := by have := Int.lt_tmod_of_pos more (show (0 : Int) < 6 by omega); omega
  have hm2 : more.tmod 6 ≤ 5 := by have := Int.tmod_lt_of_pos more (show (0 : Int) < 6 by omega); omega
  have HK0 := Lib.hid hk0
  clear hk0
  obtain ⟨init, c, hp, hg, hc, hi, hu⟩ := putU_form 9 n ⟨by omega, by omega⟩
  have hlen : init.length ≤ 4 := by
    have := putU_len 4 9 n (by omega) (by omega)
    rw [hp] at this
    simp at this
    omega
  have HP := Lib.hid hp
  have HU := Lib.hid hu
  clear hp hu
  have hfit : FitU 9 (n : Int) := ⟨by omega, by omega⟩
  obtain ⟨len0, hl0⟩ : ∃ len0, init.length = len0 := ⟨_, rfl⟩
  rw [hl0] at hlen hi
  have HL := Lib.hid hl0
  clear hl0
  have g1 : ((len0 : Int) + 1 == 0) = false := by simp; omega
  have g2 : decide (5 < (len0 : Int) + 1) = false := by simp; omega
  go_enter Try.func3, Try.ntmps3
  go_wp2_with fail
  refine (PutU_any none 0 0 [] n _ (Src.nil _ _) (fun _ => ⟨rfl, rfl⟩) (by omega) hfit).mono ?_
  rintro e w1 ⟨v, rfl, hown, hb⟩
  rw [List.nil_append, show putU n = init ++ [c] from HP.out, List.length_append, HL.out] at hown
  simp only [List.length_cons, List.length_nil, Nat.zero_add] at hown
  obtain ⟨g0, cap0, rfl⟩ : ∃ g0 cap0, v = .slice (some ⟨g0, 0, none⟩) (len0 + 1) cap0 := by
    rcases hown.2 with ⟨_, h⟩ | ⟨g', cap', cur, rfl, r⟩
    · omega
    · exact ⟨_, _, rfl⟩
  go_wp2_with fail
  simp only [HK0.out]
  go_loopw [5, 28] (fun bv i wr => PadRel w n len0 k0 bv i wr) (fun _ i _ => k0 - (intOf i).toNat)
  case atStart => exact ⟨0, len0, init, c, cap0, g0, by omega, by omega, by omega, hc, hg, ⟨HL.out, by have := HU.out; omega⟩, rfl, rfl, hown, hb⟩
  case round =>
    clear hown hb hg HU HL HP hc hfit
    obtain ⟨j, K, init, c, cap, g, hj, hK1, hK2, hc, hg, HK, rfl, rfl, hown, hb⟩ := hrel
    by_cases hlt : j < k0
    · have hcell : wr.cell? ⟨g, K, none⟩ = some (.int .u8 (c : Int)) := by
        rw [hown.cellAt K (by omega), bys_app, List.getElem?_append_right (by rw [bys_len, HK.out.1]; omega), bys_len, HK.out.1]
        simp [bys]
      have hfro : wr.frozen? ⟨g, K, none⟩ = false := hown.frozenAt K
      have hst := (hown.stored K (.int .u8 (bits .or .u8 (c : Int) 128))).1
      have hsz := hb.size
      go_wp2_with (at_builtin; refine append_src _ rfl _ _ 23 rfl w.heap.size 5 _ 1 Try.underlying23 info5 rfl _ (K + 1) _ rfl (hst.alloc _) (some ⟨wr.heap.size, 0, none⟩) 1 1 [_] rfl (src_one_at (by simp) _ _) ?_ ?_ ?_ ?_ ?_)
      · simp [Value.oneCell']
      · unfold maxLen; omega
      · omega
      · simp; omega
      · intro v' w2 h1 h2
        obtain ⟨g', cap', rfl, h3, h4⟩ := pad_round (or128 hc) HK.out.1 hown hb h1 h2
        clear h1 h2 hst hcell hfro hown hb
        go_wp2
        go_roundw
        case rel => exact ⟨j + 1, K + 1, init ++ [c + 128], 0, cap', g', by omega, by omega, by omega, by omega, Goes.snoc hg hc, ⟨by simp [HK.out.1], by rw [pad_val]; exact HK.out.2⟩, by go_num, rfl, h3, h4⟩
        case measure => simp [intOf]; omega
    · have hs1 := Src.of_own hown
      have hn64 : uval (init ++ [c]) < 18446744073709551616 := by have := HK.out.2; omega
      have htop := top_le init c hc
      rw [HK.out.1, HK.out.2] at htop
      have hK9 : K ≤ 9 := by omega
      have R1 : readV .u64 mayU natV (init ++ [c]) 0 64 = .tuple #[.int .u64 n, .int .i64 ((K : Int) + 1), .agg #[.int .i64 0, .int .i64 0, .int .i64 0]] := by
        have h := readV_groups .u64 mayU natV [] init [] c 64 (.inr rfl) hg hc
        rw [if_pos (by
          rw [HK.out.1]
          rcases Nat.lt_or_ge K 9 with h9 | h9
          · exact .inl h9
          · obtain rfl : K = 9 := by omega
            refine .inr ⟨rfl, ?_⟩
            simp [mayU]
            omega)] at h
        rw [natV_of hn64, HK.out.1, HK.out.2] at h
        simpa [faultV] using h
      have R2 : readV .u64 mayU natV (init ++ [c]) 0 32 = if K < 5 then .tuple #[.int .u64 n, .int .i64 ((K : Int) + 1), .agg #[.int .i64 0, .int .i64 0, .int .i64 0]] else .tuple #[.int .u64 0, .int .i64 0, .agg #[.int .i64 3, .int .i64 4, .int .i64 0]] := by
        have h := readV_groups .u64 mayU natV [] init [] c 32 (.inl rfl) hg hc
        rw [natV_of hn64, HK.out.1, HK.out.2] at h
        by_cases h5 : K < 5
        · rw [if_pos h5]
          rw [if_pos (by
            rcases Nat.lt_or_ge K 4 with h4 | h4
            · exact .inl h4
            · obtain rfl : K = 4 := by omega
              refine .inr ⟨rfl, ?_⟩
              simp [mayU]
              omega)] at h
          simpa [faultV] using h
        · rw [if_neg h5]
          rw [if_neg (by simp [most]; omega)] at h
          simpa [faultV, most] using h
      have HR1 := Lib.hid R1
      have HR2 := Lib.hid R2
      clear R1 R2 htop hn64
      have hall := Goes.all hg hc
      have HS := Lib.hid hs1
      have HO := Lib.hid hown
      clear hs1 hown
      go_wp2_with fail
      refine (U_any _ _ _ (init ++ [c]) 0 64 _ HS.out hall (by rcases own_shape HO.out with ⟨_, _, h, hh⟩; injection h; omega) (by omega)).mono ?_
      rintro e w2 ⟨rfl, hb2⟩
      rw [HR1.out]
      have HS2 := Lib.hid (HS.out.below hb2 (Nat.le_refl _))
      have hB2 := hb.trans (hb2.mono hb.size)
      have HB2 := Lib.hid hB2
      clear hb2 hB2
      have hz2 : w.heap.size < w2.heap.size := by have := HB2.out.size; have := HO.out.lt g rfl; have := HS2.out.addr (by omega); obtain ⟨b, o, e, h⟩ := this; injection e with e; injection e with e; subst e; omega
      go_wp2_with fail
      refine (U_any _ _ _ (init ++ [c]) 0 32 _ (HS2.out.below ((Below.refl _ _).alloc (Nat.le_refl _) _) (Nat.le_refl _)) hall (by rcases own_shape HO.out with ⟨_, _, h, hh⟩; injection h; omega) (by omega)).mono ?_
      rintro e w3 ⟨rfl, hb3⟩
      rw [HR2.out]
      obtain ⟨hc3, hf3⟩ := bcell hb3
      have hz3 : w2.heap.size < w3.heap.size := by have := hb3.size; simp at this; omega
      have HB3 := Lib.hid ((HB2.out.alloc (by omega) _).trans (hb3.mono (by simp; omega)))
      clear hb3
      have gk : ((K : Int) + 1 == (K : Int) + 1) = true := by simp
      have g10 : decide (10 < (K : Int) + 1) = false := by simp; omega
      by_cases h5 : K < 5
      · rw [if_pos h5]
        have g5 : decide ((K : Int) + 1 ≤ 5) = true := by simp; omega
        go_wp2_with fail
        refine (alive_any _).mono ?_
        rintro e w4 ⟨rfl, hb4⟩
        have HB4 := Lib.hid ((HB3.out.alloc (by omega) _).trans (hb4.mono (by simp; omega)))
        clear hb4
        go_wp2_with fail
        go_ret
        exact ⟨rfl, HB4.out⟩
      · rw [if_neg h5]
        have g5 : decide ((K : Int) + 1 ≤ 5) = false := by simp; omega
        go_wp2_with fail
        refine (alive_any _).mono ?_
        rintro e w4 ⟨rfl, hb4⟩
        have HB4 := Lib.hid ((HB3.out.alloc (by omega) _).trans (hb4.mono (by simp; omega)))
        clear hb4
        go_wp2_with fail
        go_ret
        exact ⟨rfl, HB4.out⟩
theorem u32_bounds {a : Int} (h : (Lit.int .u32 a).wf = true) : 0 ≤ a ∧ a < 4294967296 := by
  simp [Lit.wf, IntKind.min, IntKind.max, IntKind.bits, IntKind.signed] at h
  omega

theorem padded_walk (a0 : Int) (w0 : (Lit.int .u32 a0).wf = true) (a1 : Int) (_ : (Lit.int .i64 a1).wf = true) (w : World) :
    Calls Try.prog 3 #[.int .u32 a0, .int .i64 a1] w fun e w' => e = .returned (.bool true) ∧ Below w.heap.size w w' := by
  obtain ⟨h0, h1⟩ := u32_bounds w0
  obtain ⟨n, rfl⟩ := Int.eq_ofNat_of_zero_le h0
  exact padded_any n a1 w (by omega)

end Go.Proofs.Ytlfbmpbnmakacaa
