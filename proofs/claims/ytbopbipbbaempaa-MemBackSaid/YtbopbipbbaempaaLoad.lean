/-
  What mem.Load answers.
  Conditions: the slice is within the row's own reach.
-/
import Derived.Test.YtbopbipbbaempaaBackw
namespace Go.Proofs.Ytbopbipbbaempaa
open Go.RowKit Go.Bk Go.Bk.Mem Go.Shelf
attribute [local go_sem] Oper.semAt_some

/-- the bytes that came, put together -/
def foldV (xs : List Pl) : Int := xs.foldl (fun q x => bits .or .u64 (IntKind.u64.wrap (q * 256)) (x.2.toNat : Int)) 0
theorem foldV_snoc (xs : List Pl) (x : Pl) : foldV (xs ++ [x]) = bits .or .u64 (IntKind.u64.wrap (foldV xs * 256)) (x.2.toNat : Int) := by simp [foldV]

theorem box_new (W : World) (v : Value) (t : TypeId) : (W.alloc (.cells #[v] t)).cell? ⟨W.heap.size, 0, none⟩ = some v ∧ (W.alloc (.cells #[v] t)).frozen? ⟨W.heap.size, 0, none⟩ = false :=
  ⟨cell_of_row _ W.heap.size 0 #[v] t (0, 0) (heap_alloc_new W _), frozen_of_row _ W.heap.size 0 #[v] t (heap_alloc_new W _)⟩
theorem box_keep {W : World} {a : Addr} {v : Value} (o : Obj) (h : W.cell? a = some v ∧ W.frozen? a = false) : (W.alloc o).cell? a = some v ∧ (W.alloc o).frozen? a = false :=
  ⟨cell_kept h.1 (World.grownBy_alloc W o none) (fun r e => by cases e), (frozen_kept h.1 (World.grownBy_alloc W o none) (fun r e => by cases e)).trans h.2⟩

/-- a number of wn bytes, its sign carried on -/
def sxV (wn : Nat) (q : Int) : Int := IntKind.u64.wrap (wrap64 (IntKind.u64.wrap (q * 2 ^ (64 - 8 * wn))) / 2 ^ (64 - 8 * wn))
def cutV (k q : Int) : Int := if k = 127 then q % 4294967296 else q
/-- what is told of the bytes' number q -/
def tellV (k : Int) (wn : Nat) (sg : Bool) (q : Int) : Int := cutV k (if sg then sxV wn q else q)

set_option maxRecDepth 100000 in
set_option maxHeartbeats 4000000 in
theorem load_in (b o n c addr off at_ wn : Nat) (op k : Int) (sg : Bool) (l : List UInt8) (w : World) (hacc : acc op = some (k, (wn : Int), false, sg)) (hn : n ≤ 140737488355328)
    (ha : addr < 18446744073709551616) (ho : off < 18446744073709551616) (hbw : b < w.heap.size) (hnc : n ≤ c) (hp : placeV n wn addr off = ((at_ : Int), 0))
    (hl : l.length = wn) (hat : at_ + wn ≤ n) (hI : ∀ j, j < wn → w.cell? ⟨b, o + at_ + j, none⟩ = some (.int .u8 ((l.getD j 0).toNat : Int))) :
    CallsIn Fence.wide 10 Try.prog 10 #[.slice (some ⟨b, o, none⟩) n c, .int .i64 op, .int .u64 addr, .int .u64 off] w fun e w' => e = .returned (.tuple #[.int .u64 (tellV k wn sg (foldV (backOf l))), .int .i64 0]) ∧ Below w.heap.size w w' := by
  obtain ⟨hk, hwd, _, _⟩ := acc_bounds hacc
  have hw1 : 1 ≤ wn := by omega
  have hw8 : wn ≤ 8 := by omega
  have hlk := look_some hacc
  have HP := Lib.hid hp
  have HI := Lib.hid hI
  have HL := Lib.hid hl
  have HK := Lib.hid hk
  have HWD := Lib.hid hwd
  clear hp hI hacc hl hk hwd
  refine callsIn_of_wp_marks Try.func10 rfl trivial ?_ rfl
  simp only [Try.ntmps10, List.size_toArray, List.length_cons, List.length_nil, Nat.reduceAdd, Nat.reduceSub, Array.replicate_succ, Array.replicate_zero, List.push_toArray, List.append_toArray, List.nil_append, List.cons_append]
  gi_wp2_with fail
  refine ⟨trivial, ?_⟩
  refine (callsIn_wide.2 (accesses_any _)).mono ?_
  rintro e w1 ⟨rfl, rfl⟩
  gi_wp2_with fail
  refine ⟨trivial, ?_⟩
  refine (callsIn_wide.2 (place_any _ n c addr off k wn false sg _ hn (by omega) (by omega) ha ho)).mono ?_
  rintro e w1 ⟨rfl, hb1⟩
  rw [HP.out]
  obtain ⟨hc1, hf1⟩ := bcell hb1
  have hz1 : w.heap.size + 1 + 1 ≤ w1.heap.size := by have := hb1.size; simpa using this
  have HB1 := Lib.hid (show Below w.heap.size w w1 from (((Below.refl _ _).alloc (Nat.le_refl _) _).alloc (by simp) _).trans (hb1.mono (by simp; omega)))
  clear hb1
  have hz2 : w.heap.size + 1 < w1.heap.size := by omega
  have hsub : at_ + wn - at_ = wn := by omega
  have hcat : ¬ c = at_ := by omega
  gi_wp2_with fail
  refine ⟨trivial, ?_⟩
  refine (callsIn_wide.2 (backward_any _ wn (c - at_) _)).mono ?_
  rintro e w2 ⟨rfl, rfl⟩
  gi_wp2_with fail
  have HB0 := Lib.hid (show Below w.heap.size w ((w1.alloc (.cells #[.int .u64 0] 23)).alloc (.cells #[.slice (some ⟨b, o + at_, none⟩) wn (c - at_)] 22)) from (HB1.out.alloc (by omega) _).alloc (by simp; omega) _)
  have c0 := box_new w1 (.int .u64 0) 23
  have c1 := box_new (w1.alloc (.cells #[.int .u64 0] 23)) (.slice (some ⟨b, o + at_, none⟩) wn (c - at_)) 22
  simp only [World.size_alloc] at c1
  apply wpIn_rangeFunc_ownF rfl (by omega) (gf := 28) (lb := #[.pointer (some ⟨w1.heap.size + 1, 0, none⟩)]) rfl trivial (enters_of Try.func28 (by kernel_rfl) rfl)
    (back_stops Fence.wide (10 - 1) trivial rfl (by omega) (w1.heap.size + 1) w1.heap.size b (o + at_) (c - at_) l (by rw [HL.out]; omega) _ (by simp) (by simp; omega) (by rw [HL.out]; exact c1.1) (by omega)
      (fun j hj => (HB0.out.cell (p := ⟨b, o + at_ + j, none⟩) hbw).trans (HI.out j (by rw [← HL.out]; exact hj)))) Kb.trans (Kb.put (by simp; omega) (by simp)) (Below.refl _ _) (fun _ => rfl)
    (fun pre W => (W.cell? ⟨w1.heap.size, 0, none⟩ = some (.int .u64 (foldV pre)) ∧ W.frozen? ⟨w1.heap.size, 0, none⟩ = false) ∧ Below w1.heap.size w1 W)
    (fun _ _ _ => False)
    (OwnFrom.and (Own.from (fun s A B row hs hg hr => ⟨cell_kept hs.1 hg hr, (frozen_kept hs.1 hg hr).trans hs.2⟩) _) (ownFrom_below (Nat.le_refl _) (by simp; omega)))
    (fun _ _ _ _ _ hs _ _ => hs)
    ⟨box_keep _ c0, ((Below.refl _ _).alloc (Nat.le_refl _) _).alloc (by simp) _⟩
  case hassign =>
    intro l x W K hK
    simp only [plV]
    gi_wp2
    exact hK
  case hbody =>
    rintro l pre x W ⟨⟨hc, hf⟩, hB⟩ _
    gi_wp2
    have hxb : (x.2.toNat : Int) < 256 := by have := x.2.toNat_lt; omega
    refine ⟨KeepsOthers.setCell _ _ _, ⟨(Below.refl w1.heap.size W).setCell (p := ⟨w1.heap.size, 0, none⟩) (Nat.le_refl _) _, ?_⟩, ⟨?_, by rw [World.frozen?_setCell]; exact hf⟩, hB.setCell (p := ⟨w1.heap.size, 0, none⟩) (Nat.le_refl _) _⟩
    · apply World.cell?_setCell_other; simp
    · rw [foldV_snoc, show IntKind.u64.wrap (x.2.toNat : Int) = (x.2.toNat : Int) from wrap_u64_nat (by omega)]
      exact World.cell?_setCell_same' _ _ _ (by rw [hc]; rfl)
  case hdone =>
    rintro D ys W hD rfl ⟨⟨hc, hf⟩, hB⟩ hK
    have hx0 := (hB.cell (p := ⟨w.heap.size + 1, 0, none⟩) hz2).trans (hc1 (w.heap.size + 1) 0 (by simp))
    have hx1 := (hB.cell (p := ⟨w.heap.size + 1, 1, none⟩) hz2).trans (hc1 (w.heap.size + 1) 1 (by simp))
    have hx3 := (hB.cell (p := ⟨w.heap.size + 1, 3, none⟩) hz2).trans (hc1 (w.heap.size + 1) 3 (by simp))
    simp at hx0 hx1 hx3
    have hD' : w1.heap.size + 1 + 1 ≤ D := by simpa using hD
    have HB := Lib.hid (show Below w.heap.size w W from HB1.out.trans (hB.mono (by omega)))
    clear hc1 hf1 c0 c1 HB0 hD hB HP HI
    have fin : ∀ (W' : World) (q : Int) (tm : Array Value), KeepsOthers W W' → Below w.heap.size w W' → tm.getD 8 undef = .int .u64 q → tm.getD 9 undef = .int .i64 0 → q = tellV k wn sg (foldV (backOf l)) →
        bodyPostM Fence.wide 10 Try.prog Try.f10 (fun e w' => e = .returned (.tuple #[.int .u64 (tellV k wn sg (foldV (backOf l))), .int .i64 0]) ∧ Below w.heap.size w w') Exit.ret { tmps := tm, defers := [{ target := .collected D, args := #[] }] } W' := by
      intro W' q tm hko hbe h8 h9 hq
      have hK' := hko.same D _ hK rfl
      refine ⟨by simp, .inl ⟨_, _, rfl, run_takeDeferred hK', ?_⟩⟩
      refine ⟨_, results_tmp2 (t := 8) (u := 9) rfl _ _ _, by rw [h8, h9, hq], hbe.trans (belowK_b (w := w) (Nat.le_refl _) W' D _ _ (by omega) hK' rfl rfl)⟩
    gi_wp2
    · rename_i h1 h2
      refine fin _ _ _ ((KeepsOthers.setCell _ _ _).trans (KeepsOthers.setCell _ _ _)) ((HB.out.setCell (p := ⟨w1.heap.size, 0, none⟩) (by simp; omega) _).setCell (p := ⟨w1.heap.size, 0, none⟩) (by simp; omega) _) rfl rfl ?_
      rw [h1, tellV, cutV, if_pos (eq_of_beq h2), if_pos rfl, sxV]
    · rename_i h1 h2
      refine fin _ _ _ (KeepsOthers.setCell _ _ _) (HB.out.setCell (p := ⟨w1.heap.size, 0, none⟩) (by simp; omega) _) rfl rfl ?_
      rw [h1, tellV, cutV, if_neg (ne_of_beq_false h2), if_pos rfl, sxV]
    · rename_i h1 h2
      refine fin _ _ _ (KeepsOthers.setCell _ _ _) (HB.out.setCell (p := ⟨w1.heap.size, 0, none⟩) (by simp; omega) _) rfl rfl ?_
      rw [h1, tellV, cutV, if_pos (eq_of_beq h2), if_neg (by decide)]
    · rename_i h1 h2
      refine fin _ _ _ (KeepsOthers.refl _) HB.out rfl rfl ?_
      rw [h1, tellV, cutV, if_neg (ne_of_beq_false h2), if_neg (by decide)]
  case hstop =>
    rintro D c pre W _ _ h _
    exact h.elim

/-- the number of bytes, the lowest first -/
def leN : List Nat → Nat
  | [] => 0
  | b :: l => b + 256 * leN l
theorem leN_lt : ∀ l : List Nat, AllB l → leN l < 256 ^ l.length
  | [], _ => by simp [leN]
  | b :: l, h => by
    have h1 := leN_lt l (fun x hx => h x (List.mem_cons_of_mem _ hx))
    have h2 := h b (List.mem_cons_self ..)
    simp only [leN, List.length_cons, Nat.pow_succ]
    omega
theorem came_map_back (l : List UInt8) : (backOf l).map (·.2) = l.reverse := by
  unfold backOf came
  apply List.ext_getElem?
  intro i
  by_cases hi : i < l.length
  · have h' : l.length - 1 - i < l.length := by omega
    simp [hi, List.getD_eq_getElem?_getD, h']
  · simp [Nat.not_lt.1 hi]
theorem foldV_eq (xs : List Pl) : foldV xs = (xs.map (·.2)).foldl (fun q x => bits .or .u64 (IntKind.u64.wrap (q * 256)) (x.toNat : Int)) 0 := by
  rw [foldV, List.foldl_map]
theorem foldV_back : ∀ l : List UInt8, l.length ≤ 8 → foldV (backOf l) = (leN (l.map UInt8.toNat) : Int) := by
  intro l hl
  rw [foldV_eq, came_map_back]
  induction l with
  | nil => rfl
  | cons b l ih =>
    have hl' : l.length ≤ 7 := by simpa using hl
    rw [List.reverse_cons, List.foldl_append, ih (by omega)]
    have h1 := leN_lt (l.map UInt8.toNat) (fun x hx => by simp at hx; obtain ⟨y, _, rfl⟩ := hx; exact y.toNat_lt)
    have h2 : 256 ^ (l.map UInt8.toNat).length ≤ 256 ^ 7 := Nat.pow_le_pow_right (by omega) (by simpa using hl')
    have hb := b.toNat_lt
    have h3 : (leN (l.map UInt8.toNat) : Nat) < 72057594037927936 := Nat.lt_of_lt_of_le h1 h2
    simp only [List.foldl_cons, List.foldl_nil, List.map_cons, leN]
    rw [show ((leN (l.map UInt8.toNat) : Int) * 256) = ((leN (l.map UInt8.toNat) * 256 : Nat) : Int) from by simp, wrap_u64_nat (by omega)]
    rw [bits_or_u64 (by omega) (by omega), show leN (l.map UInt8.toNat) * 256 ||| b.toNat = b.toNat + 256 * leN (l.map UInt8.toNat) from by
      rw [show (256 : Nat) = 2 ^ 8 from rfl, Nat.mul_comm, ← Nat.two_pow_add_eq_or_of_lt (by omega)]; omega]

/-- what Load answers -/
def loadV (m : List Nat) (op : Int) (addr off : Nat) : Int × Int := match acc op with
  | none => (0, 1)
  | some (k, wd, st, sg) => if st then (0, 1) else if (placeV m.length wd addr off).2 = 0 then (tellV k wd.toNat sg (leN ((m.drop (addr + off)).take wd.toNat)), 0) else (0, (placeV m.length wd addr off).2)

theorem placeV_ok {n addr off : Nat} {wd : Int} (h : (placeV n wd addr off).2 = 0) : placeV n wd addr off = (((addr + off : Nat) : Int), 0) ∧ addr + off + wd.toNat ≤ n ∧ addr ≤ 4294967295 ∧ off ≤ 4294967295 := by
  revert h
  unfold placeV
  split
  · intro h; simp at h
  · split
    · rename_i h1 h2
      intro _
      simp [insB] at h2
      exact ⟨rfl, by omega, by omega, by omega⟩
    · intro h; simp at h

theorem allB_u8 {l : List Nat} (h : AllB l) : (l.map UInt8.ofNat).map UInt8.toNat = l := by
  rw [List.map_map]
  conv => rhs; rw [← List.map_id l]
  exact List.map_congr_left fun x hx => by have := h x hx; simp; omega

set_option maxRecDepth 100000 in
set_option maxHeartbeats 4000000 in
theorem Load_any (A : Option Addr) (n c addr off : Nat) (op : Int) (m : List Nat) (w : World) (hs : Src w A n (bys m)) (hB : AllB m) (hnc : n ≤ c) (hn : n ≤ 140737488355328)
    (ha : addr < 18446744073709551616) (ho : off < 18446744073709551616) :
    Calls Try.prog 10 #[.slice A n c, .int .i64 op, .int .u64 addr, .int .u64 off] w fun e w' => e = .returned (.tuple #[.int .u64 (loadV m op addr off).1, .int .i64 (loadV m op addr off).2]) ∧ Below w.heap.size w w' := by
  have hm : m.length = n := by have := hs.1; rwa [bys_len] at this
  cases hacc : acc op with
  | none =>
    have HV := Lib.hid (show loadV m op addr off = (0, 1) by simp [loadV, hacc])
    have hlk := look_none hacc
    clear hacc hs hm
    go_enter Try.func10, Try.ntmps10
    go_wp2_with fail
    refine (accesses_any _).mono ?_
    rintro e w1 ⟨rfl, rfl⟩
    go_wp2
    go_ret2
    rw [HV.out]
    exact ⟨rfl, ((Below.refl _ _).alloc (Nat.le_refl _) _).alloc (by simp) _⟩
  | some r =>
    obtain ⟨k, wd, st, sg⟩ := r
    obtain ⟨hk, hwd, _, _⟩ := acc_bounds hacc
    cases st with
    | true =>
      have HV := Lib.hid (show loadV m op addr off = (0, 1) by simp [loadV, hacc])
      have hlk := look_some hacc
      clear hacc hs hm
      go_enter Try.func10, Try.ntmps10
      go_wp2_with fail
      refine (accesses_any _).mono ?_
      rintro e w1 ⟨rfl, rfl⟩
      go_wp2
      go_ret2
      rw [HV.out]
      exact ⟨rfl, ((Below.refl _ _).alloc (Nat.le_refl _) _).alloc (by simp) _⟩
    | false =>
      by_cases hp : (placeV n wd addr off).2 = 0
      · obtain ⟨hp1, hp2, _, _⟩ := placeV_ok hp
        obtain ⟨wn, rfl⟩ := Int.eq_ofNat_of_zero_le (show 0 ≤ wd by omega)
        simp only [Int.toNat_natCast] at hp2
        obtain ⟨b, o, rfl, hlt, _⟩ := hs.2 (by omega)
        have hl : (((m.drop (addr + off)).take wn).map UInt8.ofNat).length = wn := by simp; omega
        have hBs : AllB ((m.drop (addr + off)).take wn) := fun x hx => hB x (List.mem_of_mem_drop (List.mem_of_mem_take hx))
        refine ((callsIn_wide (n := 10)).1 (load_in b o n c addr off (addr + off) wn op k sg _ w hacc hn ha ho hlt hnc hp1 hl hp2 ?_)).mono ?_
        · intro j hj
          have := hs.at_ (k := addr + off + j) (by omega)
          rw [show o + (addr + off) + j = o + (addr + off + j) from by omega, this, bys_get]
          have hx := hB.get (k := addr + off + j) (by omega)
          simp [hj, List.getD_eq_getElem?_getD, show addr + off + j < m.length from by omega]
          omega
        · rintro e w' ⟨rfl, hb⟩
          refine ⟨?_, hb⟩
          rw [foldV_back _ (by rw [hl]; omega), allB_u8 hBs]
          simp [loadV, hacc, hm, hp]
      · have HV := Lib.hid (show loadV m op addr off = (0, (placeV n wd addr off).2) by simp [loadV, hacc, hm, hp])
        have hpe : ((placeV n wd addr off).2 != 0) = true := by simpa using hp
        have hlk := look_some hacc
        clear hacc hs hm hp
        go_enter Try.func10, Try.ntmps10
        go_wp2_with fail
        refine (accesses_any _).mono ?_
        rintro e w1 ⟨rfl, rfl⟩
        go_wp2_with fail
        refine (place_any _ n c addr off k wd false sg _ hn (by omega) (by omega) ha ho).mono ?_
        rintro e w1 ⟨rfl, hb1⟩
        go_wp2
        go_ret2
        rw [HV.out]
        exact ⟨rfl, (((Below.refl _ _).alloc (Nat.le_refl _) _).alloc (by simp) _).trans (hb1.mono (by simp; omega))⟩
end Go.Proofs.Ytbopbipbbaempaa
