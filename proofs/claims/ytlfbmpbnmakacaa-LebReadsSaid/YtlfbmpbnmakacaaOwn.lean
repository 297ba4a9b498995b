/-
  The statement LebOwn: bytes that were handed in, or answered, may be written over: the law answers true at every input.
  Conditions: none but the row's own reach.
-/
import Derived.Test.YtlfbmpbnmakacaaBack
namespace Go.Bk
open Go Go.RowKit

/-- a block that is known whole -/
def Blk (w : World) (g : Nat) (e : TypeId) (cs : Array Value) : Prop := w.heap[g]? = some (.cells cs e (0, 0))
theorem Blk.lt {w : World} {g : Nat} {e : TypeId} {cs : Array Value} (h : Blk w g e cs) : g < w.heap.size := (Array.getElem?_eq_some_iff.1 h).1
theorem Blk.new (w : World) (e : TypeId) (cs : Array Value) : Blk (w.alloc (.cells cs e)) w.heap.size e cs := heap_alloc_new w _
theorem Blk.below {w w' : World} {B g : Nat} {e : TypeId} {cs : Array Value} (h : Blk w g e cs) (hb : Below B w w') (hB : g < B) : Blk w' g e cs := (hb.block g hB).trans h
theorem Blk.cell {w : World} {g : Nat} {e : TypeId} {cs : Array Value} (h : Blk w g e cs) (i : Nat) : w.cell? ⟨g, i, none⟩ = cs[i]? := cell_of_row w g i cs e (0, 0) h
theorem Blk.src {w : World} {g : Nat} {e : TypeId} {cs : Array Value} (h : Blk w g e cs) (n : Nat) (hn : n ≤ cs.size) : Src w (some ⟨g, 0, none⟩) n (cs.toList.take n) := by
  refine ⟨by simp; omega, fun _ => ⟨g, 0, rfl, h.lt, fun j u hu => ?_⟩⟩
  rw [Nat.zero_add, h.cell]
  rw [List.getElem?_take] at hu
  split at hu
  · simpa using hu
  · cases hu

/-- append within the room of a block that is known whole -/
theorem append_room_blk {P : Program} {ops : Array Oper} {rest : List Oper} {o : Oper} {a : Act} {Q : Exit → Act → World → Prop} (w : World) (hgd : o.guard = none) (s x : Operand) (t : TypeId)
    (ho : o.op = .call { callee := .builtin .append, args := #[s, x], argTypes := #[t, t] })
    (e : TypeId) (z : Value) (bytes : Nat) (ht : P.underlying t = some (.slice e)) (hinfo : (P.info? e).map (fun i => (i.zero, i.size, i.bytes)) = some (some z, 1, bytes))
    (g sLen sCap : Nat) (cur : Array Value) (hs : a.eval s = .slice (some ⟨g, 0, none⟩) sLen sCap) (hblk : Blk w g e cur)
    (A : Option Addr) (m c : Nat) (news : List Value) (hx : a.eval x = .slice A m c) (hr : Src w A m news) (h1 : ∀ u ∈ news, u.oneCell' = true)
    (hroom : sLen + m ≤ sCap) (hfit : sLen + m ≤ cur.size)
    (h : ∀ w', Blk w' g e (cur.toList.take sLen ++ news ++ cur.toList.drop (sLen + m)).toArray → w.grownBy w' (some g) → wpList P ops Q rest (a.put o.dst (.slice (some ⟨g, 0, none⟩) (sLen + m) sCap)) w') :
    wpList P ops Q (o :: rest) a w := by
  obtain ⟨i, hi, hz, hsz, hby⟩ := info_parts hinfo
  have key : ∃ w', (Builtin.append_ #[t, t] o.type #[.slice (some ⟨g, 0, none⟩) sLen sCap, .slice A m c]).run P w = .ok (.slice (some ⟨g, 0, none⟩) (sLen + m) sCap) w' ∧
      Blk w' g e (cur.toList.take sLen ++ news ++ cur.toList.drop (sLen + m)).toArray ∧ w.grownBy w' (some g) := by
    rcases A with _ | ad
    · have hm0 : m = 0 := by
        rcases Nat.eq_zero_or_pos m with h0 | h0
        · exact h0
        · obtain ⟨b, o, had, _⟩ := hr.2 h0
          cases had
      have hm : news = [] := List.eq_nil_of_length_eq_zero (by rw [hr.1, hm0])
      subst hm
      subst hm0
      refine ⟨w, ?_, by simpa using hblk, World.grownBy.refl w _⟩
      have : sLen ≤ sCap := by omega
      simp [Builtin.append_, run_underlying ht, sizeOf, typeInfo, hi, Builtin.lenOf, Builtin.firstCells, this, storeCells]
    · have hr' := run_append_room (P := P) w t o.type e i ht hi g sLen sCap cur hblk ad m c news (by rw [hsz, Nat.mul_one]; exact hr.1)
        (fun j u hu => by
          have hj := (List.getElem?_eq_some_iff.1 hu).1
          obtain ⟨b, o, e', _, hc⟩ := hr.2 (by have := hr.1; omega)
          injection e' with e'
          subst e'
          rw [Addr.add_lit]
          exact hc j u hu) h1 hroom (by rw [hsz, Nat.mul_one, hr.1]; exact hfit)
      rw [hsz, Nat.mul_one, hr.1] at hr'
      exact ⟨_, hr', setRow_heap w g cur _ e _ hblk, ⟨rfl, rfl, rfl, by simp, fun k _ hk => setRow_other w g k _ (fun e => hk (by simp [e]))⟩⟩
  obtain ⟨w', hrun, h2, h3⟩ := key
  refine wpList_plain hgd fun K hK => ?_
  unfold Oper.wp execOp
  simp only [ho, resolve, invoke, builtin, Sem.run_bind, Sem.run_pure, Result.andThen_ok, List.map_toArray, List.map_cons, List.map_nil, hs, hx, hrun]
  exact hK _ _ (h w' h2 h3)
end Go.Bk

namespace Go.Proofs.Ytlfbmpbnmakacaa
open Go.RowKit Go.Bk Go.Bk.Leb

/-- two rows of the call's own, the first in blocks from p on and below q, the second from q on -/
def TwoRel (w0 : World) (p q : Nat) (gx lx cx : Nat) (yv : Value) (ly : Nat) (i : Value) (wr : World) : Prop :=
  ∃ (k : Nat) (xs ys : List Value), k ≤ lx ∧ i = .int .i64 k ∧ wr.ownsRow p 5 1 (.slice (some ⟨gx, 0, none⟩) lx cx) lx xs ∧ wr.ownsRow q 5 1 yv ly ys ∧ Below p w0 wr

def OneRel (w0 : World) (p : Nat) (gx lx cx : Nat) (i : Value) (wr : World) : Prop :=
  ∃ (k : Nat) (xs : List Value), k ≤ lx ∧ i = .int .i64 k ∧ wr.ownsRow p 5 1 (.slice (some ⟨gx, 0, none⟩) lx cx) lx xs ∧ Below p w0 wr

theorem own_far {w : World} {q gx k : Nat} {e : TypeId} {size n : Nat} {v u : Value} {xs : List Value} (h : w.ownsRow q e size v n xs) (hg : gx < q) : (w.setCell ⟨gx, k, none⟩ u).ownsRow q e size v n xs :=
  ownsRow_setCell_below h hg u

theorem own_cell {w : World} {p : Nat} {gx lx cx k : Nat} {xs : List Value} (h : w.ownsRow p 5 1 (.slice (some ⟨gx, 0, none⟩) lx cx) lx xs) (hk : k < lx) : ∃ v, w.cell? ⟨gx, k, none⟩ = some v := by
  have hl := h.1
  rw [h.cellAt k (by omega)]
  exact ⟨_, List.getElem?_eq_getElem (by omega)⟩

theorem own_at {w : World} {p n : Nat} {v : Value} {xs : List Value} (h : w.ownsRow p 5 1 v n xs) (hn : 1 ≤ n) : ∃ g c, v = .slice (some ⟨g, 0, none⟩) n c ∧ g < w.heap.size ∧ p ≤ g := by
  rcases h.2 with ⟨_, h⟩ | ⟨g', cap', cur, rfl, h1, h2, r⟩
  · omega
  · exact ⟨_, _, rfl, (Array.getElem?_eq_some_iff.1 h2).1, h1⟩

def zeros12 : List Nat := [0, 0, 0, 0, 0, 0, 0, 0, 0, 0, 0, 0]
theorem full_blk {w : World} {g na : Nat} {a : List Nat} (_ha : a.length = na) (h : Blk w g 5 (bys a ++ List.drop na (madeCells #[.int .u8 0] (na + 12)).toList).toArray) : Blk w g 5 (bys (a ++ zeros12)).toArray := by
  rw [toList_madeCells_one, List.drop_replicate, show na + 12 - na = 12 from by omega] at h
  rw [bys_app]
  exact h
theorem Blk.bytes {w : World} {g n : Nat} {l : List Nat} (h : Blk w g 5 (bys l).toArray) (hn : n ≤ l.length) : Src w (some ⟨g, 0, none⟩) n (bys (l.take n)) := by
  have := h.src n (by simpa [bys] using hn)
  rw [← bys_take]
  simpa using this
theorem take_full {na : Nat} {a : List Nat} (ha : a.length = na) : (a ++ zeros12).take na = a := by
  rw [← ha]
  exact List.take_left

set_option maxRecDepth 100000 in
set_option maxHeartbeats 4000000 in
theorem own_any (A : Option Addr) (na ca n : Nat) (a : List Nat) (w : World) (hA : Src w A na (bys a)) (haa : AllB a) (hn : n < 18446744073709551616) (h1 : na ≤ 140737488351232) :
    Calls Try.prog 8 #[.slice A na ca, .int .u64 n] w fun e w' => e = .returned (.bool true) ∧ Below w.heap.size w w' := by
  obtain ⟨m, hm⟩ : ∃ m : Int, wrap64 (n : Int) = m := ⟨_, rfl⟩
  have hm1 : -9223372036854775808 ≤ m := by unfold wrap64 at hm; omega
  have hm2 : m < 9223372036854775808 := by unfold wrap64 at hm; omega
  have hfu : FitU 9 (n : Int) := ⟨by omega, by omega⟩
  have hfs : FitS 9 m := ⟨by omega, by omega⟩
  have hlu := putU_lt n hfu
  have hls := putS_lt m hfs
  have hla : a.length = na := by rw [← hA.1, bys_len]
  have HLA := Lib.hid hla
  have HA := Lib.hid hA
  clear hla hA hn hm1 hm2
  obtain ⟨i0, hi, hz0, hz1, hz2⟩ := info_parts info5
  have hmk : ∀ u : World, (Instr.makeSlice 23 (.int .i64 0) (.int .i64 ((na : Int) + 12))).run Try.prog u =
      .ok (.slice (some ⟨u.heap.size, 0, none⟩) 0 (na + 12)) (u.alloc (.cells (madeCells #[.int .u8 0] (na + 12)) 5)) := fun u => by
    have h := run_make (P := Try.prog) u 23 5 i0 (.int .u8 0) Try.underlying23 hi hz0 .i64 .i64 0 ((na : Int) + 12) (by omega) (by omega) (by rw [hz2]; omega) (by omega)
    have e : ((na : Int) + 12).toNat = na + 12 := by omega
    rw [e] at h
    simpa [hz1, Value.cells] using h
  clear hi hz0 hz1 hz2
  have HB0 := Lib.hid (Blk.new w 5 (madeCells #[.int .u8 0] (na + 12)))
  have HW0 := Lib.hid ((Below.refl w.heap.size w).alloc (Nat.le_refl _) (.cells (madeCells #[.int .u8 0] (na + 12)) 5))
  go_enter Try.func8, Try.ntmps8
  go_wp2_with (at_builtin; refine append_room_blk _ rfl _ _ 23 rfl 5 _ 1 Try.underlying23 info5 w.heap.size 0 (na + 12) _ rfl HB0.out A na ca _ rfl (HA.out.below HW0.out (Nat.le_refl _)) (bys_one _) (by omega) (by rw [size_madeCells]; omega) ?_)
  intro w1 hb1 hg1
  have HB1 := Lib.hid (full_blk HLA.out hb1)
  have HW1 := Lib.hid (show Below w.heap.size w w1 from HW0.out.grown hg1 (by simp) (by intro k hk; injection hk with hk; omega))
  have hz1 : w.heap.size < w1.heap.size := hb1.lt
  clear hb1 hg1 hmk HW0 HB0
  have HS1 := Lib.hid (Blk.bytes HB1.out (n := na) (by simp [HLA.out]))
  rw [take_full HLA.out] at HS1
  go_wp2_with fail
  refine (PutU_any (some ⟨w.heap.size, 0, none⟩) na (na + 12) a n _ HS1.out (fun h => by cases h) (by omega) hfu).mono ?_
  rintro e w2 ⟨v2, rfl, h2, hb⟩
  have hx1 : 1 ≤ (a ++ putU n).length := by rw [List.length_append]; omega
  have hx2 : (a ++ putU n).length ≤ na + 10 := by rw [List.length_append, HLA.out]; omega
  generalize bys (a ++ putU n) = xs at h2
  generalize (a ++ putU n).length = lx at *
  obtain ⟨gx, cx, rfl, hgx, hgx0⟩ := own_at h2 hx1
  have HX2 := Lib.hid h2
  have HB2 := Lib.hid (HB1.out.below hb hz1)
  have HS2 := Lib.hid (HS1.out.below hb (Nat.le_refl _))
  have HW2 := Lib.hid (HW1.out.trans (hb.mono (by omega)))
  have HV2 := Lib.hid hb
  have hz2 := hb.size
  clear h2 hb HS1
  go_wp2_with fail
  refine (PutS_any (some ⟨w.heap.size, 0, none⟩) na (na + 12) a m _ HS2.out (fun h => by cases h) (by omega) hfs).mono ?_
  rintro e w3 ⟨v3, rfl, h3, hb⟩
  have hy1 : 1 ≤ (a ++ putS m).length := by rw [List.length_append]; omega
  have hy2 : (a ++ putS m).length ≤ na + 10 := by rw [List.length_append, HLA.out]; omega
  generalize bys (a ++ putS m) = ys at h3
  generalize (a ++ putS m).length = ly at *
  obtain ⟨gy, cy, rfl, hgy, hgy0⟩ := own_at h3 hy1
  have HX3 := Lib.hid (own_below HX2.out hb (Nat.le_refl _))
  have HB3 := Lib.hid (HB2.out.below hb (by omega))
  have HW3 := Lib.hid (HW2.out.trans (hb.mono HW2.out.size))
  have HV3 := Lib.hid (HV2.out.trans (hb.mono hz2))
  have HY3 := Lib.hid h3
  have hz3 := hb.size
  clear h3 hb HB2 HS2 HX2 HW2 HV2
  obtain ⟨hlu1, hlu2⟩ := hlu
  obtain ⟨hls1, hls2⟩ := hls
  clear hlu1 hlu2 hls1 hls2
  go_wp2_with fail
  go_loopw [8, 27] (fun _ i wr => TwoRel w1 w1.heap.size w2.heap.size gx lx cx (.slice (some ⟨gy, 0, none⟩) ly cy) ly i wr) (fun _ i _ => lx - (intOf i).toNat)
  case atStart => exact ⟨0, xs, ys, by omega, rfl, HX3.out, HY3.out, HV3.out⟩
  case round =>
    clear HX3 HY3 HV3 HB3 HW3
    obtain ⟨k, xs, ys, hk, rfl, hX, hY, hV⟩ := hrel
    by_cases hlt : k < lx
    · obtain ⟨v, hcell⟩ := own_cell hX hlt
      have hfro : wr.frozen? ⟨gx, k, none⟩ = false := hX.frozenAt k
      have R1 := Lib.hid (hX.stored k (.int .u8 1)).1
      have R2 := Lib.hid (own_far (k := k) (u := .int .u8 1) hY hgx)
      have R3 := Lib.hid (hV.setCell (p := ⟨gx, k, none⟩) hgx0 (.int .u8 1))
      clear hX hY hV
      go_wp2
      go_roundw
      case rel => exact ⟨k + 1, _, _, by omega, by go_num, R1.out, R2.out, R3.out⟩
      case measure => simp [intOf]; omega
    · have HX := Lib.hid hX
      have HY := Lib.hid hY
      have HV := Lib.hid hV
      clear hX hY hV
      go_wp2_with fail
      go_loopw [9, 36] (fun _ i wr => OneRel w1 w1.heap.size gy ly cy i wr) (fun _ i _ => ly - (intOf i).toNat)
      case atStart => exact ⟨0, ys, by omega, rfl, own_mono HY.out (by omega), HV.out⟩
      case round =>
        clear HX HY HV
        obtain ⟨j, zs, hj, rfl, hY, hV⟩ := hrel
        by_cases hlt2 : j < ly
        · obtain ⟨v, hcell⟩ := own_cell hY hlt2
          have hfro : wr.frozen? ⟨gy, j, none⟩ = false := hY.frozenAt j
          have R1 := Lib.hid (hY.stored j (.int .u8 2)).1
          have R3 := Lib.hid (hV.setCell (p := ⟨gy, j, none⟩) (by show w1.heap.size ≤ gy; omega) (.int .u8 2))
          clear hY hV
          go_wp2
          go_roundw
          case rel => exact ⟨j + 1, _, by omega, by go_num, R1.out, R3.out⟩
          case measure => simp [intOf]; omega
        · have HV := Lib.hid hV
          clear hY hV
          have hfull : ∀ k, na ≤ k → k < na + 12 → wr.cell? ⟨w.heap.size, k, none⟩ = some (.int .u8 0) := fun k h1 h2 => by
            rw [(HB1.out.below HV.out hz1).cell]
            simp [bys]
            rw [List.getElem?_append_right (by simp [HLA.out]; omega)]
            simp [HLA.out]
            have : k - na < 12 := by omega
            generalize k - na = d at this
            revert d
            decide
          have HF := Lib.hid hfull
          clear hfull
          go_wp2_with fail
          go_loop [4, 11] (fun _ i => ∃ k : Nat, na ≤ k ∧ k ≤ na + 12 ∧ i = .int .i64 k) (fun _ i => na + 12 - (intOf i).toNat)
          case atStart => exact ⟨na, by omega, by omega, rfl⟩
          case round =>
            obtain ⟨q, hq1, hq2, rfl⟩ := hrel
            by_cases hq3 : q < na + 12
            · have hcell := HF.out q hq1 hq3
              go_wp2
              go_round
              case rel => exact ⟨q + 1, by omega, by omega, by go_num⟩
              case measure => simp [intOf]; omega
            · have HC := Lib.hid (take_full HLA.out ▸ Blk.bytes (HB1.out.below HV.out hz1) (n := na) (by simp [HLA.out]))
              have HD := Lib.hid (HA.out.below (HW1.out.trans (HV.out.mono (by omega))) (Nat.le_refl _))
              have HE := Lib.hid (HW1.out.trans (HV.out.mono (by omega)))
              clear HV HF HW1 HA HB1
              go_wp2_with fail
              refine (U_any _ _ _ _ 0 32 _ HC.out haa (by omega) (by omega)).mono ?_
              rintro e w4 ⟨rfl, hb⟩
              have HC4 := Lib.hid (HC.out.below hb (Nat.le_refl _))
              have HD4 := Lib.hid (HD.out.below hb (Nat.le_refl _))
              have HE4 := Lib.hid (HE.out.trans (hb.mono HE.out.size))
              clear hb HC HD HE
              go_wp2_with fail
              refine (S_any _ _ _ _ 0 64 _ HC4.out haa (by omega) (by omega)).mono ?_
              rintro e w5 ⟨rfl, hb⟩
              have HC := Lib.hid (HC4.out.below hb (Nat.le_refl _))
              have HD := Lib.hid (HD4.out.below hb (Nat.le_refl _))
              have HE := Lib.hid (HE4.out.trans (hb.mono HE4.out.size))
              clear hb HC4 HD4 HE4
              go_wp2_with fail
              refine (same_any _ _ _ _ _ _ a a _ HC.out haa HD.out haa).mono ?_
              rintro e w6 ⟨rfl, rfl⟩
              rw [decide_eq_true rfl]
              go_wp2_with fail
              refine (alive_any _).mono ?_
              rintro e w7 ⟨rfl, hb⟩
              have HE7 := Lib.hid (HE.out.trans (hb.mono HE.out.size))
              clear hb
              go_wp2_with fail
              go_ret
              exact ⟨rfl, HE7.out⟩

theorem own_walk (w : World) (A : Option Addr) (na ca : Nat) (za : List Int) (ra : RowIn .u8 w A na ca za) (hca : ca * Try.prog.bytesOf 5 ≤ reachBytes) (a1 : Int) (w1 : (Lit.int .u64 a1).wf = true) :
    Calls Try.prog 8 #[.slice A na ca, .int .u64 a1] w fun e w' => e = .returned (.bool true) ∧ Below w.heap.size w w' := by
  obtain ⟨h0, h1⟩ := u64_bounds w1
  obtain ⟨n, rfl⟩ := Int.eq_ofNat_of_zero_le h0
  obtain ⟨a, sa, aa, la, _⟩ := ra.bytes
  rw [show Try.prog.bytesOf 5 = 1 by kernel_rfl] at hca
  simp only [reachBytes] at hca
  exact own_any A na ca n a w sa aa (by omega) (by omega)
end Go.Proofs.Ytlfbmpbnmakacaa
