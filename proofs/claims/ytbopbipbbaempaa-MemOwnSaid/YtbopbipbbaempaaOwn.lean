/-
  MemOwn: what the statement's function answers.
  Conditions: the slice is within the row's own reach.
-/
import Derived.Test.YtbopbipbbaempaaStores
import Derived.Test.YtbopbipbbaempaaRows1
namespace Go.Proofs.Ytbopbipbbaempaa
open Go.RowKit Go.Bk Go.Bk.Mem Go.Shelf

def IsU8 (v : Value) : Prop := ∃ z : Int, v = .int .u8 z
theorem bys_u8 (l : List Nat) : ∀ x ∈ bys l, IsU8 x := by
  intro x hx
  obtain ⟨_, _, rfl⟩ := List.mem_map.1 hx
  exact ⟨_, rfl⟩
/-- k rows are written over -/
def OutRel (w0 : World) (p G : Nat) (vs : List Value) (i : Value) (wr : World) : Prop := ∃ k : Nat, k ≤ 3 ∧ i = .int .i64 k ∧ Hid (OwnedRows IsU8 wr p 5 22 G vs) ∧ Hid (Below p w0 wr)
/-- j cells of a row are written over -/
def InRel (w0 : World) (p G n : Nat) (vs : List Value) (i : Value) (wr : World) : Prop := ∃ j : Nat, j ≤ n ∧ i = .int .i64 j ∧ Hid (OwnedRows IsU8 wr p 5 22 G vs) ∧ Hid (Below p w0 wr)

theorem own_ne {w w' : World} {p q n m : Nat} {e : TypeId} {v u : Value} {xs ys : List Value} (h1 : w.ownsRow p e 1 v n xs) (hq : w.heap.size ≤ q) (h2 : w'.ownsRow q e 1 u m ys) : ∀ g, v.ownBlock = some g → u.ownBlock ≠ some g := by
  intro g hg hu
  have := (h1.lt g hg).2
  have := (h2.lt g hu).1
  omega

/-- three rows, made one behind the other, and the block that holds them -/
theorem rows3 {w1 w2 w3 : World} {p q r n1 n2 n3 : Nat} {A1 A2 A3 : Option Addr} {c1 c2 c3 : Nat} {l1 l2 l3 : List Nat} (h1 : w1.ownsRow p 5 1 (.slice A1 n1 c1) n1 (bys l1)) (h2 : w2.ownsRow q 5 1 (.slice A2 n2 c2) n2 (bys l2)) (h3 : w3.ownsRow r 5 1 (.slice A3 n3 c3) n3 (bys l3))
    (b12 : Below w1.heap.size w1 w2) (b23 : Below w2.heap.size w2 w3) (hq : w1.heap.size ≤ q) (hr : w2.heap.size ≤ r) (hpq : p ≤ q) (hpr : p ≤ r) (t : TypeId) :
    OwnedRows IsU8 (w3.alloc (.cells #[.slice A1 n1 c1, .slice A2 n2 c2, .slice A3 n3 c3] t)) p 5 t w3.heap.size [.slice A1 n1 c1, .slice A2 n2 c2, .slice A3 n3 c3] := by
  have b3 : Below w3.heap.size w3 (w3.alloc (.cells #[.slice A1 n1 c1, .slice A2 n2 c2, .slice A3 n3 c3] t)) := (Below.refl _ _).alloc (Nat.le_refl _) _
  have s1 := b12.size
  have s2 := b23.size
  have k1 := own_below (own_below (own_below h1 b12 (Nat.le_refl _)) b23 (Nat.le_refl _)) b3 (Nat.le_refl _)
  have k2 := own_below (own_below h2 b23 (Nat.le_refl _)) b3 (Nat.le_refl _)
  have k3 := own_below h3 b3 (Nat.le_refl _)
  have e12 := own_ne h1 hq h2
  have e13 := own_ne h1 (Nat.le_trans s1 hr) h3
  have e23 := own_ne h2 hr h3
  have g1 : (Value.slice A1 n1 c1).ownBlock ≠ some w3.heap.size := fun e => by have := (h1.lt _ e).2; omega
  have g2 : (Value.slice A2 n2 c2).ownBlock ≠ some w3.heap.size := fun e => by have := (h2.lt _ e).2; omega
  have g3 : (Value.slice A3 n3 c3).ownBlock ≠ some w3.heap.size := fun e => by have := (h3.lt _ e).2; omega
  refine ⟨Blk.new w3 t _, fun i v hi => ?_⟩
  have hi3 : i < 3 := (List.getElem?_eq_some_iff.1 hi).1
  have cases3 : ∀ (j : Nat) (u : Value), [Value.slice A1 n1 c1, .slice A2 n2 c2, .slice A3 n3 c3][j]? = some u → (j = 0 ∧ u = .slice A1 n1 c1) ∨ (j = 1 ∧ u = .slice A2 n2 c2) ∨ (j = 2 ∧ u = .slice A3 n3 c3) := by
    intro j u hj
    match j, hj with
    | 0, hj => exact .inl ⟨rfl, by simpa using hj.symm⟩
    | 1, hj => exact .inr (.inl ⟨rfl, by simpa using hj.symm⟩)
    | 2, hj => exact .inr (.inr ⟨rfl, by simpa using hj.symm⟩)
    | j + 3, hj => simp at hj
  rcases cases3 i v hi with ⟨rfl, rfl⟩ | ⟨rfl, rfl⟩ | ⟨rfl, rfl⟩
  · refine ⟨⟨_, _, _, _, rfl, k1, bys_u8 _⟩, g1, fun j u hj hne g hg => ?_⟩
    rcases cases3 j u hj with ⟨rfl, rfl⟩ | ⟨rfl, rfl⟩ | ⟨rfl, rfl⟩
    · omega
    · exact e12 g hg
    · exact e13 g hg
  · refine ⟨⟨_, _, _, _, rfl, own_mono k2 hpq, bys_u8 _⟩, g2, fun j u hj hne g hg => ?_⟩
    rcases cases3 j u hj with ⟨rfl, rfl⟩ | ⟨rfl, rfl⟩ | ⟨rfl, rfl⟩
    · exact fun e => e12 g e hg
    · omega
    · exact e23 g hg
  · refine ⟨⟨_, _, _, _, rfl, own_mono k3 hpr, bys_u8 _⟩, g3, fun j u hj hne g hg => ?_⟩
    rcases cases3 j u hj with ⟨rfl, rfl⟩ | ⟨rfl, rfl⟩ | ⟨rfl, rfl⟩
    · exact fun e => e13 g e hg
    · exact fun e => e23 g e hg
    · omega

set_option maxRecDepth 100000 in
set_option maxHeartbeats 4000000 in
theorem MemOwn_true (w : World) (A : Option Addr) (n c : Nat) (zs : List Int) (hz : RowIn .u8 w A n c zs) (hreach : c * Try.prog.bytesOf 5 ≤ reachBytes) (op at_ off x : Int) (_ : (Lit.int .i64 op).wf = true) (hat : (Lit.int .u64 at_).wf = true)
    (hoff : (Lit.int .u64 off).wf = true) (hxx : (Lit.int .u64 x).wf = true) :
    Calls Try.prog 8 #[.slice A n c, .agg #[.int .i64 op, .int .u64 at_, .int .u64 off, .int .u64 x]] w fun e w' => e = .returned (.bool true) ∧ Below w.heap.size w w' := by
  obtain ⟨m, hs, hB, hnc, hA⟩ := hz.bytes
  have hn : n ≤ 140737488355328 := reach_len hnc hreach
  obtain ⟨ha1, ha2⟩ := u64_bounds hat
  obtain ⟨addr, rfl⟩ := Int.eq_ofNat_of_zero_le ha1
  obtain ⟨ho1, ho2⟩ := u64_bounds hoff
  obtain ⟨of, rfl⟩ := Int.eq_ofNat_of_zero_le ho1
  obtain ⟨hx1, hx2⟩ := u64_bounds hxx
  obtain ⟨N, rfl⟩ := Int.eq_ofNat_of_zero_le hx1
  have hb0 := Lib.hid (show Below w.heap.size w (w.alloc (.cells #[.int .i64 op, .int .u64 addr, .int .u64 of, .int .u64 N] 25)) from (Below.refl _ _).alloc (Nat.le_refl _) _)
  have HS := Lib.hid (hs.below hb0.out (Nat.le_refl _))
  have HA := Lib.hid hA
  clear hs hA hz hreach hat hoff hxx
  go_enter Try.func8, Try.ntmps8
  go_wp2_with (at_builtin; refine append_copy _ rfl _ (.tmp 15) 22 rfl 5 (.int .u8 0) 1 Try.underlying22 info5 rfl rfl A n c (bys m) rfl HS.out (bys_one _) (by unfold maxLen; omega) (by omega) ?_)
  rintro v0 w0 ho0 hb1
  replace hb1 : Below (w.alloc (.cells #[.int .i64 op, .int .u64 addr, .int .u64 of, .int .u64 N] 25)).heap.size (w.alloc (.cells #[.int .i64 op, .int .u64 addr, .int .u64 of, .int .u64 N] 25)) w0 := hb1.mono (by simp)
  obtain ⟨A0, c0, rfl, _⟩ := own_shape ho0
  obtain ⟨hc1, hf1⟩ := bcell hb1
  have hz0 : w.heap.size < w0.heap.size := by have := hb1.size; simp at this; omega
  have HB0 := Lib.hid (hb0.out.trans (hb1.mono (by simp)))
  have HO0 := Lib.hid ho0
  have HS0 := Lib.hid (HS.out.below hb1 (Nat.le_refl _))
  clear ho0 hb1
  go_wp2_with fail
  refine (Store_any A n c addr of N op m _ HS0.out HA.out hn (by omega) (by omega) (by omega)).mono ?_
  rintro e w1 ⟨A1, c1, rfl, ho1, hb1⟩
  generalize HR : storeE n op addr of N = R
  replace HR := Lib.hid HR
  generalize storeM m op addr of N = m1 at ho1
  generalize HL1 : m1.length = n1 at ho1
  replace HL1 := Lib.hid HL1
  have HS1 := Lib.hid (HS0.out.below hb1 (Nat.le_refl _))
  have HO1 := Lib.hid ho1
  have HB1 := Lib.hid hb1
  clear ho1 hb1 hc1 hf1
  go_wp2_with fail
  refine (Grow_any A n c m 4096 0 _ HS1.out HA.out hn (by omega) (by omega) (by omega)).mono ?_
  rintro e w2 ⟨A2, c2, rfl, ho2, hb2⟩
  generalize growR n 4096 0 = R2
  generalize growM m 4096 0 = m2 at ho2
  generalize HL2 : m2.length = n2 at ho2
  replace HL2 := Lib.hid HL2
  have HS2 := Lib.hid (HS1.out.below hb2 (Nat.le_refl _))
  have HO2 := Lib.hid ho2
  have HB2 := Lib.hid hb2
  clear ho2 hb2
  go_wp2_with fail
  refine (Grow_any A n c m 4096 1 _ HS2.out HA.out hn (by omega) (by omega) (by omega)).mono ?_
  rintro e w3 ⟨A3, c3, rfl, ho3, hb3⟩
  generalize growR n 4096 1 = R3
  generalize growM m 4096 1 = m3 at ho3
  generalize HL3 : m3.length = n3 at ho3
  replace HL3 := Lib.hid HL3
  have HR3 := Lib.hid (rows3 HO1.out HO2.out ho3 HB2.out hb3 (Nat.le_refl _) (Nat.le_refl _) HB1.out.size (Nat.le_trans HB1.out.size HB2.out.size) 22)
  have HB3 := Lib.hid (show Below w0.heap.size w0 (w3.alloc (.cells #[.slice A1 n1 c1, .slice A2 n2 c2, .slice A3 n3 c3] 22)) from (HB1.out.trans ((HB2.out.trans (hb3.mono HB2.out.size)).mono HB1.out.size)).alloc (Nat.le_trans HB1.out.size (Nat.le_trans HB2.out.size hb3.size)) _)
  clear ho3 hb3
  go_wp2_with fail
  go_loopw [45] (fun i wr => OutRel w0 w0.heap.size w3.heap.size [.slice A1 n1 c1, .slice A2 n2 c2, .slice A3 n3 c3] i wr) (fun i _ => 4 - (intOf i).toNat)
  case atStart => exact ⟨0, by omega, rfl, HR3, HB3⟩
  case round =>
    clear HR3 HB3
    obtain ⟨k, hk, rfl, HRK, HBK⟩ := hrel
    by_cases hlt : k < 3
    · have hlt' : decide ((k : Int) < 3) = true := by simp; omega
      obtain ⟨v, hv⟩ : ∃ v, [Value.slice A1 n1 c1, .slice A2 n2 c2, .slice A3 n3 c3][k]? = some v := ⟨_, List.getElem?_eq_getElem (by simpa using hlt)⟩
      have hcell := HRK.out.cell hv
      obtain ⟨⟨A4, n4, c4, xs, rfl, ho4, _⟩, _, _⟩ := HRK.out.2 k _ hv
      have hn4 : n4 ≤ 9223372036854775807 := by
        rcases ho4.2 with ⟨_, h⟩ | ⟨_, _, _, e, _, _, h1, h2, _⟩
        · omega
        · unfold maxLen at h2; omega
      have HV := Lib.hid hv
      clear hv ho4
      obtain ⟨wo, rfl⟩ : ∃ wo : World, wo = wr := ⟨_, rfl⟩
      go_wp2_with fail
      go_loopw [51] (fun i wr => InRel w0 w0.heap.size w3.heap.size n4 [.slice A1 n1 c1, .slice A2 n2 c2, .slice A3 n3 c3] i wr) (fun i _ => n4 + 1 - (intOf i).toNat)
      case atStart => exact ⟨0, by omega, rfl, HRK, HBK⟩
      case round =>
        clear HRK HBK hcell
        obtain ⟨j, hj, rfl, HRJ, HBJ⟩ := hrel
        by_cases hjt : j < n4
        · have hjt' : decide ((j : Int) < (n4 : Int)) = true := by simpa using hjt
          obtain ⟨⟨_, _, _, xs, e, ho4, hC⟩, _, _⟩ := HRJ.out.2 k _ HV.out
          injection e with e1 e2 e3
          subst e1
          subst e2
          subst e3
          obtain ⟨g, _, e, _, hg2, _⟩ := own_at ho4 (by omega)
          injection e with e1 _ e3
          subst e1
          subst e3
          have hfro : wr.frozen? ⟨g, j, none⟩ = false := ho4.frozenAt _
          obtain ⟨z, hcell⟩ : ∃ z, wr.cell? ⟨g, j, none⟩ = some (.int .u8 z) := by
            have hl := ho4.1
            rw [ho4.cellAt j (by omega), List.getElem?_eq_getElem (by omega)]
            obtain ⟨z, hz⟩ := hC _ (List.getElem_mem (show j < xs.length by omega))
            exact ⟨z, by rw [hz]⟩
          clear ho4 hC
          go_wp2
          exact ⟨⟨j + 1, by omega, by simp, Lib.hid (HRJ.out.set HV.out j ⟨_, rfl⟩), Lib.hid (HBJ.out.setCell (p := ⟨g, j, none⟩) hg2 _)⟩, by simp [intOf]; omega⟩
        · obtain rfl : j = n4 := by omega
          go_wp2
          exact ⟨⟨k + 1, by omega, by simp, HRJ, HBJ⟩, by simp [intOf]; omega⟩
    · obtain rfl : k = 3 := by omega
      have HBE := Lib.hid (HB0.out.trans (HBK.out.mono (by omega)))
      have HSE := Lib.hid (HS0.out.below HBK.out (Nat.le_refl _))
      have HOE := Lib.hid (own_below HO0.out HBK.out (Nat.le_refl _))
      clear HBK HRK
      go_wp2_with fail
      refine (same_any A A0 n c n c0 m m _ HSE.out hB (Bk.Src.of_own HOE.out) hB).mono ?_
      rintro e w5 ⟨rfl, rfl⟩
      rw [decide_eq_true rfl]
      go_wp2_with fail
      refine (alive_any _).mono ?_
      rintro e w6 ⟨rfl, hb6⟩
      have HB6 := Lib.hid (HBE.out.trans (hb6.mono HBE.out.size))
      clear hb6
      go_wp2
      go_ret
      exact ⟨rfl, HB6.out⟩
end Go.Proofs.Ytbopbipbbaempaa
