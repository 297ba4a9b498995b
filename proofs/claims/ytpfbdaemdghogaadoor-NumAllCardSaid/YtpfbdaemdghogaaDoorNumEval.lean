/-
  What num.Eval answers.
  Conditions: the library's two tables hold what their initialisers lay.
-/
import Derived.Test.YtpfbdaemdghogaaDoorNumCl
import Derived.Test.YtpfbdaemdghogaaDoorNumCl2
import Derived.Test.YtpfbdaemdghogaaDoorIMap
namespace Go.Bk.Num
open Go Go.RowKit
/-- numbers of 64 bits as cells -/
def u64V (l : List Nat) : List Value := l.map fun c : Nat => .int .u64 (c : Int)
def All64 (l : List Nat) : Prop := ∀ x ∈ l, x < 18446744073709551616
end Go.Bk.Num
namespace Go.Proofs.YtpfbdaemdghogaaDoor
open Go.RowKit Go.Bk Go.Bk.Num
set_option linter.unusedVariables false
set_option linter.unusedSimpArgs false

/-- what an operator of a kind c, a type d, at its place k, answers of numbers that fit -/
def kindV (c d k : Int) (out : Int) (l : List Nat) : Int × Int :=
  if c = 0 then (b01 ((l.getD 0 0 : Int) == 0), 0)
  else if c = 2 then ((cntL (if d = 126 then 64 else 32) (l.getD 0 0)).getD k.toNat 0, 0)
  else if c = 4 then ((l.getD 0 0 : Int) % 4294967296, 0)
  else if c = 5 then (widV k (l.getD 0 0), 0)
  else if c = 6 then (extV k out (l.getD 0 0), 0)
  else twoV c d k (l.getD 0 0) (l.getD 1 0)
/-- what Eval answers -/
def evalV (op : Int) (l : List Nat) : Int × Int := match grpOf op with
  | none => (0, 1)
  | some (a, _, c, d) => if (sigL op).length = l.length ∧ l.all (fitsN d) = true then kindV c d (op - a) (sigO op) l else (0, 1)

def EvPost (p : Int × Int) (w : World) (e : Ending) (w' : World) : Prop := e = .returned (.tuple #[.int .u64 p.1, .int .i64 p.2]) ∧ Below w.heap.size w w'

set_option maxRecDepth 100000 in
set_option maxHeartbeats 2000000 in
theorem eval_none (op : Int) (A : Option Addr) (n c : Nat) (l : List Nat) (w : World) (h1 : -9223372036854775808 ≤ op) (h2 : op ≤ 9223372036854775807) (hg : grpOf op = none) :
    Calls Tryd.prog 10 #[.int .i64 op, .slice A n c] w (EvPost (evalV op l) w) := by
  have HV := Lib.hid (show evalV op l = (0, 1) by simp [evalV, hg])
  have HT := Lib.hid (show findT op = .tuple #[.agg #[.int .i64 0, .int .i64 0, .int .i64 0, .int .i64 0], .int .i64 0, .bool false] by simp [findT, hg])
  have HI := Lib.hid (show (grpOf op).isSome = false by simp [hg])
  have hb0 := Lib.hid (show Below w.heap.size w (w.alloc (.cells #[.slice A n c] 22)) from (Below.refl _ _).alloc (Nat.le_refl _) _)
  clear hg
  go_enter Tryd.func10, Tryd.ntmps10
  go_wp2_with fail
  refine (find_any op _ h1 h2).mono ?_
  rintro e w1 ⟨rfl, hb1⟩
  rw [HT.out]
  have HB1 := Lib.hid (hb0.out.trans (hb1.mono (by simp)))
  clear hb1
  go_wp2_with fail
  refine (Sig_any op _ h1 h2).mono ?_
  rintro e w2 ⟨A2, c2, rfl, _, hb2⟩
  rw [HI.out]
  have HB2 := Lib.hid (show Below w.heap.size w w2 from ((HB1.out.alloc HB1.out.size _).alloc (by have := HB1.out.size; simp; omega) _).trans (hb2.mono (by have := HB1.out.size; simp; omega)))
  generalize (sigL op).length = L
  generalize sigO op = O
  clear hb2
  go_wp2
  go_ret2
  unfold EvPost
  rw [HV.out]
  exact ⟨rfl, HB2.out.alloc HB2.out.size _⟩

set_option maxRecDepth 100000 in
set_option maxHeartbeats 2000000 in
theorem eval_len (op a b c d : Int) (A : Option Addr) (n cp : Nat) (l : List Nat) (w : World) (h1 : -9223372036854775808 ≤ op) (h2 : op ≤ 9223372036854775807) (hg : grpOf op = some (a, b, c, d)) (hl : l.length = n) (hne : (sigL op).length ≠ n) :
    Calls Tryd.prog 10 #[.int .i64 op, .slice A n cp] w (EvPost (evalV op l) w) := by
  have HV := Lib.hid (show evalV op l = (0, 1) by simp [evalV, hg, hl, hne])
  have HF := Lib.hid (show findT op = .tuple #[.agg #[.int .i64 a, .int .i64 b, .int .i64 c, .int .i64 d], .int .i64 (op - a), .bool true] by simp [findT, hg, gV])
  have HI := Lib.hid (show (grpOf op).isSome = true by simp [hg])
  have hb0 := Lib.hid (show Below w.heap.size w (w.alloc (.cells #[.slice A n cp] 22)) from (Below.refl _ _).alloc (Nat.le_refl _) _)
  generalize HLL : (sigL op).length = L at hne
  replace HLL := Lib.hid HLL
  have hne' : ((L : Int) != (n : Int)) = true := by simp; omega
  clear hg hl hne
  go_enter Tryd.func10, Tryd.ntmps10
  go_wp2_with fail
  refine (find_any op _ h1 h2).mono ?_
  rintro e w1 ⟨rfl, hb1⟩
  rw [HF.out]
  have hz1 : w.heap.size < w1.heap.size := by have := hb1.size; simp at this; omega
  have hp1 := hb1.cell (p := ⟨w.heap.size, 0, none⟩) (by simp)
  simp at hp1
  have HB1 := Lib.hid (hb0.out.trans (hb1.mono (by simp)))
  clear hb1
  go_wp2_with fail
  refine (Sig_any op _ h1 h2).mono ?_
  rintro e w2 ⟨A2, c2, rfl, ho2, hb2⟩
  rw [HI.out]
  have hz2 : w1.heap.size + 1 + 1 ≤ w2.heap.size := by have := hb2.size; simpa using this
  have HB2 := Lib.hid (show Below w.heap.size w w2 from ((HB1.out.alloc HB1.out.size _).alloc (by have := HB1.out.size; simp; omega) _).trans (hb2.mono (by have := HB1.out.size; simp; omega)))
  have hz3 : w.heap.size < w2.heap.size := by omega
  have hz4 : w1.heap.size < w2.heap.size := by omega
  have hz5 : w1.heap.size + 1 < w2.heap.size := by omega
  have hp2 : w2.cell? ⟨w.heap.size, 0, none⟩ = some (.slice A n cp) := (hb2.cell (p := ⟨w.heap.size, 0, none⟩) (by simp; omega)).trans (((((Below.refl w1.heap.size w1).alloc (Nat.le_refl _) _).alloc (by simp) _).cell (p := ⟨w.heap.size, 0, none⟩) hz1).trans hp1)
  have hg0 := (hb2.cell (p := ⟨w1.heap.size, 0, none⟩) (by simp; omega))
  have hg1 := (hb2.cell (p := ⟨w1.heap.size, 1, none⟩) (by simp; omega))
  have hg2 := (hb2.cell (p := ⟨w1.heap.size, 2, none⟩) (by simp; omega))
  have hg3 := (hb2.cell (p := ⟨w1.heap.size, 3, none⟩) (by simp; omega))
  have hk2 := (hb2.cell (p := ⟨w1.heap.size + 1, 0, none⟩) (by simp))
  simp at hg0 hg1 hg2 hg3 hk2
  rw [HLL.out]
  generalize sigO op = O
  clear hb2 ho2
  go_wp2
  go_ret2
  unfold EvPost
  rw [HV.out]
  exact ⟨rfl, HB2.out.alloc HB2.out.size _⟩

def ftab (pa pg pk po : Nat) : List (Int × Value) := [(0, Value.func (.func 25) #[] #[Value.pointer (some ⟨pa, 0, none⟩)]), (2, Value.func (.func 27) #[] #[Value.pointer (some ⟨pa, 0, none⟩), Value.pointer (some ⟨pg, 0, none⟩), Value.pointer (some ⟨pk, 0, none⟩)]), (4, Value.func (.func 29) #[] #[Value.pointer (some ⟨pa, 0, none⟩)]), (5, Value.func (.func 30) #[] #[Value.pointer (some ⟨pa, 0, none⟩), Value.pointer (some ⟨pk, 0, none⟩)]), (6, Value.func (.func 31) #[] #[Value.pointer (some ⟨pa, 0, none⟩), Value.pointer (some ⟨pk, 0, none⟩), Value.pointer (some ⟨po, 0, none⟩)])]
def fL (pa pg pk po i : Nat) : Obj := lit ((ftab pa pg pk po).take i)
theorem fi0 (pa pg pk po : Nat) (W : World) : (Instr.mapUpdate 53 (.map (some W.heap.size)) (.int .i64 0) (Value.func (.func 25) #[] #[Value.pointer (some ⟨pa, 0, none⟩)])).run Tryd.prog (W.alloc (fL pa pg pk po 0)) = .ok () (W.alloc (fL pa pg pk po 1)) :=
  run_insert_lit W 53 3 47 ((ftab pa pg pk po).take 0) 0 _ Tryd.underlying53 Tryd.underlying3 (by simp [ftab, findPair])
theorem fi1 (pa pg pk po : Nat) (W : World) : (Instr.mapUpdate 53 (.map (some W.heap.size)) (.int .i64 2) (Value.func (.func 27) #[] #[Value.pointer (some ⟨pa, 0, none⟩), Value.pointer (some ⟨pg, 0, none⟩), Value.pointer (some ⟨pk, 0, none⟩)])).run Tryd.prog (W.alloc (fL pa pg pk po 1)) = .ok () (W.alloc (fL pa pg pk po 2)) :=
  run_insert_lit W 53 3 47 ((ftab pa pg pk po).take 1) 2 _ Tryd.underlying53 Tryd.underlying3 (by simp [ftab, findPair])
theorem fi2 (pa pg pk po : Nat) (W : World) : (Instr.mapUpdate 53 (.map (some W.heap.size)) (.int .i64 4) (Value.func (.func 29) #[] #[Value.pointer (some ⟨pa, 0, none⟩)])).run Tryd.prog (W.alloc (fL pa pg pk po 2)) = .ok () (W.alloc (fL pa pg pk po 3)) :=
  run_insert_lit W 53 3 47 ((ftab pa pg pk po).take 2) 4 _ Tryd.underlying53 Tryd.underlying3 (by simp [ftab, findPair])
theorem fi3 (pa pg pk po : Nat) (W : World) : (Instr.mapUpdate 53 (.map (some W.heap.size)) (.int .i64 5) (Value.func (.func 30) #[] #[Value.pointer (some ⟨pa, 0, none⟩), Value.pointer (some ⟨pk, 0, none⟩)])).run Tryd.prog (W.alloc (fL pa pg pk po 3)) = .ok () (W.alloc (fL pa pg pk po 4)) :=
  run_insert_lit W 53 3 47 ((ftab pa pg pk po).take 3) 5 _ Tryd.underlying53 Tryd.underlying3 (by simp [ftab, findPair])
theorem fi4 (pa pg pk po : Nat) (W : World) : (Instr.mapUpdate 53 (.map (some W.heap.size)) (.int .i64 6) (Value.func (.func 31) #[] #[Value.pointer (some ⟨pa, 0, none⟩), Value.pointer (some ⟨pk, 0, none⟩), Value.pointer (some ⟨po, 0, none⟩)])).run Tryd.prog (W.alloc (fL pa pg pk po 4)) = .ok () (W.alloc (fL pa pg pk po 5)) :=
  run_insert_lit W 53 3 47 ((ftab pa pg pk po).take 4) 6 _ Tryd.underlying53 Tryd.underlying3 (by simp [ftab, findPair])
theorem zeroF (w : World) : (zeroValue 47).run Tryd.prog w = .ok .nilFunc w := by kernel_rfl
theorem fkc0 (pa pg pk po : Nat) (W : World) : (Instr.lookup 53 (.map (some W.heap.size)) (.int .i64 0) true).run Tryd.prog (W.alloc (fL pa pg pk po 5)) = .ok (.tuple #[Value.func (.func 25) #[] #[Value.pointer (some ⟨pa, 0, none⟩)], .bool true]) (W.alloc (fL pa pg pk po 5)) := by
  have := run_lookup_lit (P := Tryd.prog) W 53 3 47 .nilFunc ((ftab pa pg pk po).take 5) 0 Tryd.underlying53 Tryd.underlying3 zeroF
  rw [fL, this]
  simp [ftab, findPair]
theorem fk2 (pa pg pk po : Nat) (W : World) : (Instr.lookup 53 (.map (some W.heap.size)) (.int .i64 2) true).run Tryd.prog (W.alloc (fL pa pg pk po 5)) = .ok (.tuple #[Value.func (.func 27) #[] #[Value.pointer (some ⟨pa, 0, none⟩), Value.pointer (some ⟨pg, 0, none⟩), Value.pointer (some ⟨pk, 0, none⟩)], .bool true]) (W.alloc (fL pa pg pk po 5)) := by
  have := run_lookup_lit (P := Tryd.prog) W 53 3 47 .nilFunc ((ftab pa pg pk po).take 5) 2 Tryd.underlying53 Tryd.underlying3 zeroF
  rw [fL, this]
  simp [ftab, findPair]
theorem fk4 (pa pg pk po : Nat) (W : World) : (Instr.lookup 53 (.map (some W.heap.size)) (.int .i64 4) true).run Tryd.prog (W.alloc (fL pa pg pk po 5)) = .ok (.tuple #[Value.func (.func 29) #[] #[Value.pointer (some ⟨pa, 0, none⟩)], .bool true]) (W.alloc (fL pa pg pk po 5)) := by
  have := run_lookup_lit (P := Tryd.prog) W 53 3 47 .nilFunc ((ftab pa pg pk po).take 5) 4 Tryd.underlying53 Tryd.underlying3 zeroF
  rw [fL, this]
  simp [ftab, findPair]
theorem fk5 (pa pg pk po : Nat) (W : World) : (Instr.lookup 53 (.map (some W.heap.size)) (.int .i64 5) true).run Tryd.prog (W.alloc (fL pa pg pk po 5)) = .ok (.tuple #[Value.func (.func 30) #[] #[Value.pointer (some ⟨pa, 0, none⟩), Value.pointer (some ⟨pk, 0, none⟩)], .bool true]) (W.alloc (fL pa pg pk po 5)) := by
  have := run_lookup_lit (P := Tryd.prog) W 53 3 47 .nilFunc ((ftab pa pg pk po).take 5) 5 Tryd.underlying53 Tryd.underlying3 zeroF
  rw [fL, this]
  simp [ftab, findPair]
theorem fk6 (pa pg pk po : Nat) (W : World) : (Instr.lookup 53 (.map (some W.heap.size)) (.int .i64 6) true).run Tryd.prog (W.alloc (fL pa pg pk po 5)) = .ok (.tuple #[Value.func (.func 31) #[] #[Value.pointer (some ⟨pa, 0, none⟩), Value.pointer (some ⟨pk, 0, none⟩), Value.pointer (some ⟨po, 0, none⟩)], .bool true]) (W.alloc (fL pa pg pk po 5)) := by
  have := run_lookup_lit (P := Tryd.prog) W 53 3 47 .nilFunc ((ftab pa pg pk po).take 5) 6 Tryd.underlying53 Tryd.underlying3 zeroF
  rw [fL, this]
  simp [ftab, findPair]
theorem fk1 (pa pg pk po : Nat) (W : World) : (Instr.lookup 53 (.map (some W.heap.size)) (.int .i64 1) true).run Tryd.prog (W.alloc (fL pa pg pk po 5)) = .ok (.tuple #[.nilFunc, .bool false]) (W.alloc (fL pa pg pk po 5)) := by
  have := run_lookup_lit (P := Tryd.prog) W 53 3 47 .nilFunc ((ftab pa pg pk po).take 5) 1 Tryd.underlying53 Tryd.underlying3 zeroF
  rw [fL, this]
  simp [ftab, findPair]
theorem fk3 (pa pg pk po : Nat) (W : World) : (Instr.lookup 53 (.map (some W.heap.size)) (.int .i64 3) true).run Tryd.prog (W.alloc (fL pa pg pk po 5)) = .ok (.tuple #[.nilFunc, .bool false]) (W.alloc (fL pa pg pk po 5)) := by
  have := run_lookup_lit (P := Tryd.prog) W 53 3 47 .nilFunc ((ftab pa pg pk po).take 5) 3 Tryd.underlying53 Tryd.underlying3 zeroF
  rw [fL, this]
  simp [ftab, findPair]
theorem grp_rng {op a b c d : Int} (h : grpOf op = some (a, b, c, d)) : (c = 0 → b = 1) ∧ (c = 1 → b = 10) ∧ (c = 2 → b = 3) ∧ (c = 3 → b = 15) ∧ (c = 4 → b = 1) ∧ (c = 5 → b = 2) ∧ (c = 6 → b ≤ 3) := by
  have hm := List.mem_of_find?_eq_some h
  have hall : ∀ g ∈ grps, (g.2.2.1 = 0 → g.2.1 = 1) ∧ (g.2.2.1 = 1 → g.2.1 = 10) ∧ (g.2.2.1 = 2 → g.2.1 = 3) ∧ (g.2.2.1 = 3 → g.2.1 = 15) ∧ (g.2.2.1 = 4 → g.2.1 = 1) ∧ (g.2.2.1 = 5 → g.2.1 = 2) ∧ (g.2.2.1 = 6 → g.2.1 ≤ 3) := by decide
  exact hall _ hm

theorem two_any (a0 b0 c d : Int) (k a b : Nat) (w : World) (hc : (c = 1 ∧ k < 10) ∨ (c = 3 ∧ k < 15)) (hd : d = 126 ∨ d = 127) (ha : fitsN d a = true) (hb : fitsN d b = true) (ha64 : a < 18446744073709551616) (hb64 : b < 18446744073709551616) :
    Calls Tryd.prog 32 #[.agg #[.int .i64 a0, .int .i64 b0, .int .i64 c, .int .i64 d], .int .i64 k, .int .u64 a, .int .u64 b] w (TwoPost (twoV c d k a b) w) := by
  rcases hd with rfl | rfl
  · rcases hc with ⟨rfl, hk⟩ | ⟨rfl, hk⟩
    · exact two_rel64 a0 b0 k a b w hk ha64 hb64
    · by_cases h : 3 ≤ k ∧ k ≤ 6
      · exact two_div64 a0 b0 k a b w h.1 h.2 ha64 hb64
      · exact two_ari64 a0 b0 k a b w (by omega) hk ha64 hb64
  · have ha' : a < 4294967296 := by simpa [fitsN] using ha
    have hb' : b < 4294967296 := by simpa [fitsN] using hb
    rcases hc with ⟨rfl, hk⟩ | ⟨rfl, hk⟩
    · exact two_rel32 a0 b0 k a b w hk ha' hb'
    · by_cases h : 3 ≤ k ∧ k ≤ 6
      · exact two_div32 a0 b0 k a b w h.1 h.2 ha' hb'
      · exact two_ari32 a0 b0 k a b w (by omega) hk ha' hb'

def EvRel (n : Nat) (d : Int) (l : List Nat) (i : Value) : Prop := ∃ k : Nat, k ≤ n ∧ i = .int .i64 k ∧ Hid ((l.take k).all (fitsN d) = true)

set_option maxRecDepth 100000 in
set_option maxHeartbeats 4000000 in
theorem eval_some (op a b c d : Int) (A : Option Addr) (n cp : Nat) (l : List Nat) (w : World) (h1 : -9223372036854775808 ≤ op) (h2 : op ≤ 9223372036854775807) (hg : grpOf op = some (a, b, c, d)) (hs : Bk.Src w A n (u64V l)) (h64 : All64 l) (hT : Tabs w) (hne : (sigL op).length = n) :
    Calls Tryd.prog 10 #[.int .i64 op, .slice A n cp] w (EvPost (evalV op l) w) := by
  have hl : l.length = n := by have := hs.1; simpa [u64V] using this
  have HF := Lib.hid (show findT op = .tuple #[.agg #[.int .i64 a, .int .i64 b, .int .i64 c, .int .i64 d], .int .i64 (op - a), .bool true] by simp [findT, hg, gV])
  have HI := Lib.hid (show (grpOf op).isSome = true by simp [hg])
  have HSL := Lib.hid (show sigL op = List.replicate n d by rw [← hne]; simp only [sigL, hg]; split <;> rfl)
  have hn12 : n = 1 ∨ n = 2 := by rw [← hne]; simp only [sigL, hg]; split <;> simp
  have hn1 : 1 ≤ n := by omega
  have hn2 : n ≤ 2 := by omega
  have hb0 := Lib.hid (show Below w.heap.size w (w.alloc (.cells #[.slice A n cp] 22)) from (Below.refl _ _).alloc (Nat.le_refl _) _)
  obtain ⟨ab, ao, rfl, hab⟩ := hs.addr (by omega)
  have HS := Lib.hid hs
  have HNE := Lib.hid hne
  have HG := Lib.hid hg
  have HL := Lib.hid hl
  have HTA := Lib.hid hT
  have H64 := Lib.hid h64
  have hnn : ((n : Int) != (n : Int)) = false := by simp
  clear hg hl hne hs hn12 hT h64
  go_enter Tryd.func10, Tryd.ntmps10
  go_wp2_with fail
  refine (find_any op _ h1 h2).mono ?_
  rintro e w1 ⟨rfl, hb1⟩
  rw [HF.out]
  have hz1 : w.heap.size < w1.heap.size := by have := hb1.size; simp at this; omega
  have hp1 := hb1.cell (p := ⟨w.heap.size, 0, none⟩) (by simp)
  simp at hp1
  have HB1 := Lib.hid (hb0.out.trans (hb1.mono (by simp)))
  clear hb1
  go_wp2_with fail
  refine (Sig_any op _ h1 h2).mono ?_
  rintro e w2 ⟨A2, c2, rfl, ho2, hb2⟩
  rw [HI.out]
  have hz2 : w1.heap.size + 1 + 1 ≤ w2.heap.size := by have := hb2.size; simpa using this
  have HB2 := Lib.hid (show Below w.heap.size w w2 from ((HB1.out.alloc HB1.out.size _).alloc (by have := HB1.out.size; simp; omega) _).trans (hb2.mono (by have := HB1.out.size; simp; omega)))
  have hz3 : w.heap.size < w2.heap.size := by omega
  have hz4 : w1.heap.size < w2.heap.size := by omega
  have hz5 : w1.heap.size + 1 < w2.heap.size := by omega
  have hp2 : w2.cell? ⟨w.heap.size, 0, none⟩ = some (.slice (some ⟨ab, ao, none⟩) n cp) := (hb2.cell (p := ⟨w.heap.size, 0, none⟩) (by simp; omega)).trans (((((Below.refl w1.heap.size w1).alloc (Nat.le_refl _) _).alloc (by simp) _).cell (p := ⟨w.heap.size, 0, none⟩) hz1).trans hp1)
  have hg0 := (hb2.cell (p := ⟨w1.heap.size, 0, none⟩) (by simp; omega))
  have hg1 := (hb2.cell (p := ⟨w1.heap.size, 1, none⟩) (by simp; omega))
  have hg2 := (hb2.cell (p := ⟨w1.heap.size, 2, none⟩) (by simp; omega))
  have hg3 := (hb2.cell (p := ⟨w1.heap.size, 3, none⟩) (by simp; omega))
  have hk2 := (hb2.cell (p := ⟨w1.heap.size + 1, 0, none⟩) (by simp))
  simp at hg0 hg1 hg2 hg3 hk2
  rw [HNE.out]
  rw [HNE.out, HSL.out] at ho2
  generalize HO : sigO op = O
  replace HO := Lib.hid HO
  have HOW := Lib.hid ho2
  clear hb2 ho2
  obtain ⟨g2, c2', e, hgl, hge, _⟩ := own_at HOW.out hn1
  injection e with e1 e2 e3
  subst e1
  subst e3
  have HB3 := Lib.hid (HB2.out.alloc HB2.out.size (.cells #[.int .i64 O] 3))
  have b23 : Below w2.heap.size w2 (w2.alloc (.cells #[.int .i64 O] 3)) := (Below.refl _ _).alloc (Nat.le_refl _) _
  have hq := (b23.cell (p := ⟨w.heap.size, 0, none⟩) hz3).trans hp2
  have hq0 := (b23.cell (p := ⟨w1.heap.size, 0, none⟩) hz4).trans hg0
  have hq1 := (b23.cell (p := ⟨w1.heap.size, 1, none⟩) hz4).trans hg1
  have hq2 := (b23.cell (p := ⟨w1.heap.size, 2, none⟩) hz4).trans hg2
  have hq3 := (b23.cell (p := ⟨w1.heap.size, 3, none⟩) hz4).trans hg3
  have hqk := (b23.cell (p := ⟨w1.heap.size + 1, 0, none⟩) hz5).trans hk2
  have hqo : (w2.alloc (.cells #[.int .i64 O] 3)).cell? ⟨w2.heap.size, 0, none⟩ = some (.int .i64 O) := (Blk.new w2 3 #[.int .i64 O]).cell 0
  have HS3 := Lib.hid (HS.out.below HB3.out (Nat.le_refl _))
  have HT3 := Lib.hid (HTA.out.below HB3.out HTA.out.2.2)
  have HOW3 := Lib.hid (own_below HOW.out b23 (Nat.le_refl _))
  have hs3 : w2.heap.size < (w2.alloc (.cells #[.int .i64 O] 3)).heap.size := by simp
  have hin : ∀ k, k < n → (w2.alloc (.cells #[.int .i64 O] 3)).cell? ⟨g2, k, none⟩ = some (.int .i64 d) := fun k hk => by
    rw [HOW3.out.cellAt k (by omega)]
    simp [intsV, hk]
  have HIN := Lib.hid hin
  go_wp2_with fail
  clear hp1 hp2 hg0 hg1 hg2 hg3 hk2 b23 HB2 HOW HOW3 HB1 HS hin HTA
  generalize w2.alloc (.cells #[.int .i64 O] 3) = w3 at *
  go_loop [40] (fun i => EvRel n d l i) (fun i => n + 1 - (intOf i).toNat)
  case atStart => exact ⟨0, by omega, rfl, Lib.hid (by simp)⟩
  case round =>
    obtain ⟨k, hk, rfl, HFI⟩ := hrel
    by_cases hlt : k < n
    · have hlt' : decide ((k : Int) < (n : Int)) = true := by simpa using hlt
      have hce := HS3.out.at_ hlt
      simp only [u64V, List.getElem_map] at hce
      have hde := HIN.out k hlt
      have hx64 := H64.out _ (List.getElem_mem (show k < l.length by rw [HL.out]; exact hlt))
      have HTK := Lib.hid (List.take_succ_eq_append_getElem (show k < l.length by rw [HL.out]; exact hlt))
      generalize l[k]'(by rw [HL.out]; exact hlt) = x at hce hx64 HTK
      cases hf : fitsN d x with
      | true =>
        have HF' := Lib.hid hf
        clear hf
        go_wp2_with fail
        refine (Fits_any d x _ hx64).mono ?_
        rintro e w4 ⟨rfl, rfl⟩
        rw [HF'.out]
        go_wp2
        exact ⟨⟨k + 1, by omega, by simp, Lib.hid (by rw [HTK.out, List.all_append, HFI.out]; simp [HF'.out])⟩, by simp [intOf]; omega⟩
      | false =>
        have HF' := Lib.hid hf
        clear hf
        go_wp2_with fail
        refine (Fits_any d x _ hx64).mono ?_
        rintro e w4 ⟨rfl, rfl⟩
        rw [HF'.out]
        go_wp2
        go_ret2
        unfold EvPost
        have hV : evalV op l = (0, 1) := by
          have hall : l.all (fitsN d) = false := by
            rw [← List.take_append_drop (k + 1) l, List.all_append, HTK.out, List.all_append]
            simp [HF'.out]
          simp [evalV, HG.out, hall]
        rw [hV]
        exact ⟨rfl, HB3.out⟩
    · obtain rfl : k = n := by omega
      have hall : l.all (fitsN d) = true := by
        have := HFI.out
        rwa [List.take_of_length_le (by rw [HL.out]; omega)] at this
      have HV := Lib.hid (show evalV op l = kindV c d (op - a) O l by rw [evalV, HG.out]; simp only; rw [if_pos ⟨by rw [HNE.out, HL.out], hall⟩, HO.out])
      obtain ⟨hkc, hkd, _, hka, hkb, _, _⟩ := grp_kind HG.out
      obtain ⟨r0, r1, r2, r3, r4, r5, r6⟩ := grp_rng HG.out
      obtain ⟨kn, hkn⟩ := Int.eq_ofNat_of_zero_le (show 0 ≤ op - a by omega)
      have hmm : ∀ (t : TypeId) (W' : World), (Instr.makeMap t none).run Tryd.prog W' = .ok (.map (some W'.heap.size)) (W'.alloc (fL w.heap.size w1.heap.size (w1.heap.size + 1) w2.heap.size 0)) := fun _ _ => rfl
      have i0 := fi0 w.heap.size w1.heap.size (w1.heap.size + 1) w2.heap.size
      have i1 := fi1 w.heap.size w1.heap.size (w1.heap.size + 1) w2.heap.size
      have i2 := fi2 w.heap.size w1.heap.size (w1.heap.size + 1) w2.heap.size
      have i3 := fi3 w.heap.size w1.heap.size (w1.heap.size + 1) w2.heap.size
      have i4 := fi4 w.heap.size w1.heap.size (w1.heap.size + 1) w2.heap.size
      have bA : Below w3.heap.size w3 (w3.alloc (fL w.heap.size w1.heap.size (w1.heap.size + 1) w2.heap.size 5)) := (Below.refl _ _).alloc (Nat.le_refl _) _
      have HB4 := Lib.hid (HB3.out.alloc HB3.out.size (fL w.heap.size w1.heap.size (w1.heap.size + 1) w2.heap.size 5))
      have za : w.heap.size < w3.heap.size := by omega
      have zb : w1.heap.size < w3.heap.size := by omega
      have zc : w1.heap.size + 1 < w3.heap.size := by omega
      have zd : ab < w3.heap.size := by omega
      have qa := (bA.cell (p := ⟨w.heap.size, 0, none⟩) za).trans hq
      have qk := (bA.cell (p := ⟨w1.heap.size + 1, 0, none⟩) zc).trans hqk
      have qg := (bA.cell (p := ⟨w1.heap.size, 3, none⟩) zb).trans hq3
      have qo := (bA.cell (p := ⟨w2.heap.size, 0, none⟩) hs3).trans hqo
      have HT4 := Lib.hid (HT3.out.below bA HT3.out.2.2)
      have hce := HS3.out.at_ (k := 0) (by omega)
      simp only [u64V, List.getElem_map, Nat.add_zero] at hce
      have hx64 := H64.out _ (List.getElem_mem (show 0 < l.length by rw [HL.out]; omega))
      have HX0 := Lib.hid (show l.getD 0 0 = l[0]'(by rw [HL.out]; omega) by rw [List.getD_eq_getElem?_getD, List.getElem?_eq_getElem (by rw [HL.out]; omega)]; rfl)
      have hfx := List.all_eq_true.1 hall _ (List.getElem_mem (show 0 < l.length by rw [HL.out]; omega))
      generalize l[0]'(by rw [HL.out]; omega) = x at hce hx64 HX0 hfx
      have q0 := (bA.cell (p := ⟨ab, ao, none⟩) zd).trans hce
      have za' : w.heap.size < (w3.alloc (fL w.heap.size w1.heap.size (w1.heap.size + 1) w2.heap.size 5)).heap.size := by simp; omega
      have zb' : w1.heap.size < (w3.alloc (fL w.heap.size w1.heap.size (w1.heap.size + 1) w2.heap.size 5)).heap.size := by simp; omega
      have zc' : (w1.heap.size + 1) < (w3.alloc (fL w.heap.size w1.heap.size (w1.heap.size + 1) w2.heap.size 5)).heap.size := by simp; omega
      have zd' : ab < (w3.alloc (fL w.heap.size w1.heap.size (w1.heap.size + 1) w2.heap.size 5)).heap.size := by simp; omega
      have ze' : w2.heap.size < (w3.alloc (fL w.heap.size w1.heap.size (w1.heap.size + 1) w2.heap.size 5)).heap.size := by simp; omega
      have HFT := Lib.hid hfx
      have HALL := Lib.hid hall
      rw [hkn] at qk HV
      have HKN := Lib.hid hkn
      have hknb : (kn : Int) < b := by omega
      clear hkn bA hall HFI hfx
      rcases hkc with rfl | rfl | rfl | rfl | rfl | rfl | rfl
      · have fk := fkc0 w.heap.size w1.heap.size (w1.heap.size + 1) w2.heap.size
        clear r0 r1 r2 r3 r4 r5 r6
        go_wp2_with fail
        refine (cl1_any w.heap.size ab ao _ cp x _ qa q0 hn1).mono ?_
        rintro e w5 ⟨rfl, rfl⟩
        go_wp2
        go_ret2
        unfold EvPost
        rw [HV.out, kindV, if_pos rfl, HX0.out]
        exact ⟨rfl, HB4.out⟩
      · have fk := fk1 w.heap.size w1.heap.size (w1.heap.size + 1) w2.heap.size
        have hk2' : 2 ≤ k := by have := HNE.out; rw [sigL, HG.out] at this; simp at this; omega
        have hce1 := HS3.out.at_ (k := 1) (by omega)
        simp only [u64V, List.getElem_map] at hce1
        have hy64 := H64.out _ (List.getElem_mem (show 1 < l.length by rw [HL.out]; omega))
        have HX1 := Lib.hid (show l.getD 1 0 = l[1]'(by rw [HL.out]; omega) by rw [List.getD_eq_getElem?_getD, List.getElem?_eq_getElem (by rw [HL.out]; omega)]; rfl)
        have hfy := List.all_eq_true.1 HALL.out _ (List.getElem_mem (show 1 < l.length by rw [HL.out]; omega))
        generalize l[1]'(by rw [HL.out]; omega) = y at hce1 hy64 HX1 hfy
        have q1 := ((Below.refl w3.heap.size w3).alloc (Nat.le_refl _) (fL w.heap.size w1.heap.size (w1.heap.size + 1) w2.heap.size 5)).cell (p := ⟨ab, ao + 1, none⟩) zd |>.trans hce1
        have qg0 := ((Below.refl w3.heap.size w3).alloc (Nat.le_refl _) (fL w.heap.size w1.heap.size (w1.heap.size + 1) w2.heap.size 5)).cell (p := ⟨w1.heap.size, 0, none⟩) zb |>.trans hq0
        have qg1 := ((Below.refl w3.heap.size w3).alloc (Nat.le_refl _) (fL w.heap.size w1.heap.size (w1.heap.size + 1) w2.heap.size 5)).cell (p := ⟨w1.heap.size, 1, none⟩) zb |>.trans hq1
        have qg2 := ((Below.refl w3.heap.size w3).alloc (Nat.le_refl _) (fL w.heap.size w1.heap.size (w1.heap.size + 1) w2.heap.size 5)).cell (p := ⟨w1.heap.size, 2, none⟩) zb |>.trans hq2
        have hknc : kn < 10 := by have := r1 rfl; omega
        have HTW := Lib.hid (fun W' => two_any a b 1 d kn x y W' (by omega) hkd HFT.out hfy hx64 hy64)
        have hk0' : 0 < k := by omega
        have hk1' : 1 < k := by omega
        have hk1i : (1 : Int) < (k : Int) := by omega
        clear hfy r0 r1 r2 r3 r4 r5 r6
        go_wp2_with fail
        generalize w3.alloc (fL w.heap.size w1.heap.size (w1.heap.size + 1) w2.heap.size 5) = w4 at *
        have hs4 : w4.cell? ⟨w.heap.size, 0, none⟩ = some (.slice (some ⟨ab, ao, none⟩) k cp) ∧ w4.cell? ⟨w1.heap.size, 0, none⟩ = some (.int .i64 a) ∧ w4.cell? ⟨w1.heap.size, 1, none⟩ = some (.int .i64 b) ∧ w4.cell? ⟨w1.heap.size, 2, none⟩ = some (.int .i64 1) ∧ w4.cell? ⟨w1.heap.size, 3, none⟩ = some (.int .i64 d) ∧ w4.cell? ⟨w1.heap.size + 1, 0, none⟩ = some (.int .i64 kn) ∧ w4.cell? ⟨ab, ao, none⟩ = some (.int .u64 x) ∧ w4.cell? ⟨ab, ao + 1, none⟩ = some (.int .u64 y) := ⟨qa, qg0, qg1, qg2, qg, qk, q0, q1⟩
        clear fk HT4 HT3 HS3 HIN hq0 hq1 hq2 hq3 hqk hqo hq qo i0 i1 i2 i3 i4 hmm HKN HF HI HSL H64
        go_region_held3 (fun w' => w'.cell? ⟨w.heap.size, 0, none⟩ = some (.slice (some ⟨ab, ao, none⟩) k cp) ∧ w'.cell? ⟨w1.heap.size, 0, none⟩ = some (.int .i64 a) ∧ w'.cell? ⟨w1.heap.size, 1, none⟩ = some (.int .i64 b) ∧ w'.cell? ⟨w1.heap.size, 2, none⟩ = some (.int .i64 1) ∧ w'.cell? ⟨w1.heap.size, 3, none⟩ = some (.int .i64 d) ∧ w'.cell? ⟨w1.heap.size + 1, 0, none⟩ = some (.int .i64 kn) ∧ w'.cell? ⟨ab, ao, none⟩ = some (.int .u64 x) ∧ w'.cell? ⟨ab, ao + 1, none⟩ = some (.int .u64 y)) (first | exact hs4 | exact hs5) (first | (go_at_call 32; refine (HTW.out _).mono ?_; rintro e w5 ⟨rfl, hb5⟩; have hs5 : w5.cell? ⟨w.heap.size, 0, none⟩ = some (.slice (some ⟨ab, ao, none⟩) k cp) ∧ w5.cell? ⟨w1.heap.size, 0, none⟩ = some (.int .i64 a) ∧ w5.cell? ⟨w1.heap.size, 1, none⟩ = some (.int .i64 b) ∧ w5.cell? ⟨w1.heap.size, 2, none⟩ = some (.int .i64 1) ∧ w5.cell? ⟨w1.heap.size, 3, none⟩ = some (.int .i64 d) ∧ w5.cell? ⟨w1.heap.size + 1, 0, none⟩ = some (.int .i64 kn) ∧ w5.cell? ⟨ab, ao, none⟩ = some (.int .u64 x) ∧ w5.cell? ⟨ab, ao + 1, none⟩ = some (.int .u64 y) := ⟨(hb5.cell (p := ⟨w.heap.size, 0, none⟩) za').trans qa, (hb5.cell (p := ⟨w1.heap.size, 0, none⟩) zb').trans qg0, (hb5.cell (p := ⟨w1.heap.size, 1, none⟩) zb').trans qg1, (hb5.cell (p := ⟨w1.heap.size, 2, none⟩) zb').trans qg2, (hb5.cell (p := ⟨w1.heap.size, 3, none⟩) zb').trans qg, (hb5.cell (p := ⟨w1.heap.size + 1, 0, none⟩) zc').trans qk, (hb5.cell (p := ⟨ab, ao, none⟩) zd').trans q0, (hb5.cell (p := ⟨ab, ao + 1, none⟩) zd').trans q1⟩; have HB5 := Lib.hid hb5; clear hb5))
        all_goals
          go_wp2
          go_ret2
          unfold EvPost
          rw [HV.out, kindV, if_neg (by decide), if_neg (by decide), if_neg (by decide), if_neg (by decide), if_neg (by decide), HX0.out, HX1.out]
          exact ⟨rfl, HB4.out.drew.trans (HB5.out.mono HB4.out.size)⟩
      · have fk := fk2 w.heap.size w1.heap.size (w1.heap.size + 1) w2.heap.size
        have hW : (d = 126 ∧ (if d = 126 then 64 else 32 : Nat) = 64 ∧ x < 18446744073709551616) ∨ (d = 127 ∧ (if d = 126 then 64 else 32 : Nat) = 32 ∧ x < 4294967296) := by
          rcases hkd with rfl | rfl
          · exact .inl ⟨rfl, rfl, hx64⟩
          · exact .inr ⟨rfl, rfl, by have := HFT.out; simp [fitsN] at this; exact this⟩
        have hcl := (cl2_any w.heap.size w1.heap.size (w1.heap.size + 1) ab ao k cp x _ kn a b 2 d _ qa q0 hn1 qk (by have := r2 rfl; omega) qg za' zc' zd' zb' HT4.out hW)
        obtain ⟨z, HZ⟩ : ∃ z, (cntL (if d = 126 then 64 else 32) x).getD kn 0 = z := ⟨_, rfl⟩
        rw [HZ] at hcl
        have HCL := Lib.hid hcl
        replace HZ := Lib.hid HZ
        clear hW hcl
        clear r0 r1 r2 r3 r4 r5 r6
        go_wp2_with fail
        refine HCL.out.mono ?_
        rintro e w5 ⟨rfl, hb5⟩
        have HB5 := Lib.hid (HB4.out.trans (hb5.mono HB4.out.size))
        clear hb5
        go_wp2
        go_ret2
        unfold EvPost
        rw [HV.out, kindV, if_neg (by decide), if_pos rfl, HX0.out, Int.toNat_natCast, HZ.out]
        exact ⟨rfl, HB5.out⟩
      · have fk := fk3 w.heap.size w1.heap.size (w1.heap.size + 1) w2.heap.size
        have hk2' : 2 ≤ k := by have := HNE.out; rw [sigL, HG.out] at this; simp at this; omega
        have hce1 := HS3.out.at_ (k := 1) (by omega)
        simp only [u64V, List.getElem_map] at hce1
        have hy64 := H64.out _ (List.getElem_mem (show 1 < l.length by rw [HL.out]; omega))
        have HX1 := Lib.hid (show l.getD 1 0 = l[1]'(by rw [HL.out]; omega) by rw [List.getD_eq_getElem?_getD, List.getElem?_eq_getElem (by rw [HL.out]; omega)]; rfl)
        have hfy := List.all_eq_true.1 HALL.out _ (List.getElem_mem (show 1 < l.length by rw [HL.out]; omega))
        generalize l[1]'(by rw [HL.out]; omega) = y at hce1 hy64 HX1 hfy
        have q1 := ((Below.refl w3.heap.size w3).alloc (Nat.le_refl _) (fL w.heap.size w1.heap.size (w1.heap.size + 1) w2.heap.size 5)).cell (p := ⟨ab, ao + 1, none⟩) zd |>.trans hce1
        have qg0 := ((Below.refl w3.heap.size w3).alloc (Nat.le_refl _) (fL w.heap.size w1.heap.size (w1.heap.size + 1) w2.heap.size 5)).cell (p := ⟨w1.heap.size, 0, none⟩) zb |>.trans hq0
        have qg1 := ((Below.refl w3.heap.size w3).alloc (Nat.le_refl _) (fL w.heap.size w1.heap.size (w1.heap.size + 1) w2.heap.size 5)).cell (p := ⟨w1.heap.size, 1, none⟩) zb |>.trans hq1
        have qg2 := ((Below.refl w3.heap.size w3).alloc (Nat.le_refl _) (fL w.heap.size w1.heap.size (w1.heap.size + 1) w2.heap.size 5)).cell (p := ⟨w1.heap.size, 2, none⟩) zb |>.trans hq2
        have hknc : kn < 15 := by have := r3 rfl; omega
        have HTW := Lib.hid (fun W' => two_any a b 3 d kn x y W' (by omega) hkd HFT.out hfy hx64 hy64)
        have hk0' : 0 < k := by omega
        have hk1' : 1 < k := by omega
        have hk1i : (1 : Int) < (k : Int) := by omega
        clear hfy r0 r1 r2 r3 r4 r5 r6
        go_wp2_with fail
        generalize w3.alloc (fL w.heap.size w1.heap.size (w1.heap.size + 1) w2.heap.size 5) = w4 at *
        have hs4 : w4.cell? ⟨w.heap.size, 0, none⟩ = some (.slice (some ⟨ab, ao, none⟩) k cp) ∧ w4.cell? ⟨w1.heap.size, 0, none⟩ = some (.int .i64 a) ∧ w4.cell? ⟨w1.heap.size, 1, none⟩ = some (.int .i64 b) ∧ w4.cell? ⟨w1.heap.size, 2, none⟩ = some (.int .i64 3) ∧ w4.cell? ⟨w1.heap.size, 3, none⟩ = some (.int .i64 d) ∧ w4.cell? ⟨w1.heap.size + 1, 0, none⟩ = some (.int .i64 kn) ∧ w4.cell? ⟨ab, ao, none⟩ = some (.int .u64 x) ∧ w4.cell? ⟨ab, ao + 1, none⟩ = some (.int .u64 y) := ⟨qa, qg0, qg1, qg2, qg, qk, q0, q1⟩
        clear fk HT4 HT3 HS3 HIN hq0 hq1 hq2 hq3 hqk hqo hq qo i0 i1 i2 i3 i4 hmm HKN HF HI HSL H64
        go_region_held3 (fun w' => w'.cell? ⟨w.heap.size, 0, none⟩ = some (.slice (some ⟨ab, ao, none⟩) k cp) ∧ w'.cell? ⟨w1.heap.size, 0, none⟩ = some (.int .i64 a) ∧ w'.cell? ⟨w1.heap.size, 1, none⟩ = some (.int .i64 b) ∧ w'.cell? ⟨w1.heap.size, 2, none⟩ = some (.int .i64 3) ∧ w'.cell? ⟨w1.heap.size, 3, none⟩ = some (.int .i64 d) ∧ w'.cell? ⟨w1.heap.size + 1, 0, none⟩ = some (.int .i64 kn) ∧ w'.cell? ⟨ab, ao, none⟩ = some (.int .u64 x) ∧ w'.cell? ⟨ab, ao + 1, none⟩ = some (.int .u64 y)) (first | exact hs4 | exact hs5) (first | (go_at_call 32; refine (HTW.out _).mono ?_; rintro e w5 ⟨rfl, hb5⟩; have hs5 : w5.cell? ⟨w.heap.size, 0, none⟩ = some (.slice (some ⟨ab, ao, none⟩) k cp) ∧ w5.cell? ⟨w1.heap.size, 0, none⟩ = some (.int .i64 a) ∧ w5.cell? ⟨w1.heap.size, 1, none⟩ = some (.int .i64 b) ∧ w5.cell? ⟨w1.heap.size, 2, none⟩ = some (.int .i64 3) ∧ w5.cell? ⟨w1.heap.size, 3, none⟩ = some (.int .i64 d) ∧ w5.cell? ⟨w1.heap.size + 1, 0, none⟩ = some (.int .i64 kn) ∧ w5.cell? ⟨ab, ao, none⟩ = some (.int .u64 x) ∧ w5.cell? ⟨ab, ao + 1, none⟩ = some (.int .u64 y) := ⟨(hb5.cell (p := ⟨w.heap.size, 0, none⟩) za').trans qa, (hb5.cell (p := ⟨w1.heap.size, 0, none⟩) zb').trans qg0, (hb5.cell (p := ⟨w1.heap.size, 1, none⟩) zb').trans qg1, (hb5.cell (p := ⟨w1.heap.size, 2, none⟩) zb').trans qg2, (hb5.cell (p := ⟨w1.heap.size, 3, none⟩) zb').trans qg, (hb5.cell (p := ⟨w1.heap.size + 1, 0, none⟩) zc').trans qk, (hb5.cell (p := ⟨ab, ao, none⟩) zd').trans q0, (hb5.cell (p := ⟨ab, ao + 1, none⟩) zd').trans q1⟩; have HB5 := Lib.hid hb5; clear hb5))
        all_goals
          go_wp2
          go_ret2
          unfold EvPost
          rw [HV.out, kindV, if_neg (by decide), if_neg (by decide), if_neg (by decide), if_neg (by decide), if_neg (by decide), HX0.out, HX1.out]
          exact ⟨rfl, HB4.out.drew.trans (HB5.out.mono HB4.out.size)⟩
      · have fk := fk4 w.heap.size w1.heap.size (w1.heap.size + 1) w2.heap.size
        clear r0 r1 r2 r3 r4 r5 r6
        go_wp2_with fail
        refine (cl3_any w.heap.size ab ao _ cp x _ qa q0 hn1).mono ?_
        rintro e w5 ⟨rfl, rfl⟩
        go_wp2
        go_ret2
        unfold EvPost
        rw [HV.out, kindV, if_neg (by decide), if_neg (by decide), if_pos rfl, HX0.out]
        exact ⟨rfl, HB4.out⟩
      · have fk := fk5 w.heap.size w1.heap.size (w1.heap.size + 1) w2.heap.size
        have HCL := Lib.hid (cl4_any w.heap.size (w1.heap.size + 1) ab ao k cp x kn _ qa q0 hn1 qk (by have := r5 rfl; omega) za' zc' zd')
        clear r0 r1 r2 r3 r4 r5 r6
        go_wp2_with fail
        refine HCL.out.mono ?_
        rintro e w5 ⟨rfl, hb5⟩
        have HB5 := Lib.hid (HB4.out.trans (hb5.mono HB4.out.size))
        clear hb5
        go_wp2
        go_ret2
        unfold EvPost
        rw [HV.out, kindV, if_neg (by decide), if_neg (by decide), if_neg (by decide), if_pos rfl, HX0.out]
        exact ⟨rfl, HB5.out⟩
      · have fk := fk6 w.heap.size w1.heap.size (w1.heap.size + 1) w2.heap.size
        have HCL := Lib.hid (cl5_any w.heap.size (w1.heap.size + 1) w2.heap.size ab ao k cp x kn O _ qa q0 hn1 qk (by have := r6 rfl; omega) qo za' zc' zd' ze')
        clear r0 r1 r2 r3 r4 r5 r6
        go_wp2_with fail
        refine HCL.out.mono ?_
        rintro e w5 ⟨rfl, hb5⟩
        have HB5 := Lib.hid (HB4.out.trans (hb5.mono HB4.out.size))
        clear hb5
        go_wp2
        go_ret2
        unfold EvPost
        rw [HV.out, kindV, if_neg (by decide), if_neg (by decide), if_neg (by decide), if_neg (by decide), if_pos rfl, HX0.out]
        exact ⟨rfl, HB5.out⟩

/-- num.Eval, at every operator and all numbers -/
theorem Eval_any (op : Int) (A : Option Addr) (n cp : Nat) (l : List Nat) (w : World) (h1 : -9223372036854775808 ≤ op) (h2 : op ≤ 9223372036854775807) (hs : Bk.Src w A n (u64V l)) (h64 : All64 l) (hT : Tabs w) :
    Calls Tryd.prog 10 #[.int .i64 op, .slice A n cp] w (EvPost (evalV op l) w) := by
  cases hg : grpOf op with
  | none => exact eval_none op A n cp l w h1 h2 hg
  | some g =>
    obtain ⟨a, b, c, d⟩ := g
    by_cases hne : (sigL op).length = n
    · exact eval_some op a b c d A n cp l w h1 h2 hg hs h64 hT hne
    · exact eval_len op a b c d A n cp l w h1 h2 hg (by have := hs.1; simpa [u64V] using this) hne
end Go.Proofs.YtpfbdaemdghogaaDoor
