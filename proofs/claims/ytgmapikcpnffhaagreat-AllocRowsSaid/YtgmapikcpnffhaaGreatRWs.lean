/-
 Programs of rows; numbers and types compared; lower.Right.
 Conditions: none.
-/
import Derived.Deep.QuietTactic
import Derived.BigQuiet
import Derived.Test.YtgmapikcpnffhaaGreatLivCf
import Derived.Test.YtgmapikcpnffhaaGreatLivCheck
namespace Go.Bk
open Go Go.RowKit
set_option linter.unusedVariables false
structure RowsD where
 env : EnvD
 fns : List RowD
/-- a program's value -/
def RowsV (w : World) (v : Value) (p : RowsD) : Prop := ∃ a b d f, v = .agg #[a, .int .i64 p.env.imports, b, d, .bool p.env.mem, f] ∧ Structs 2 SigC w a p.env.sigs ∧ Ints w b p.env.globals ∧ Bools w d p.env.muts ∧ Structs 5 RowC w f p.fns
theorem RowsV.below {w w' : World} {B : Nat} {r : Value} {p : RowsD} (h : RowsV w r p) (hb : Below B w w') (hB : w.heap.size ≤ B) : RowsV w' r p := by
 obtain ⟨a, b, d, f, e, h1, h2, h3, h4⟩ := h
 exact ⟨a, b, d, f, e, h1.below hb hB (fun r x q => q.below hb hB), h2.below hb hB, h3.below hb hB, h4.below hb hB (fun r x q => q.below hb hB)⟩
theorem RowsV.env {w : World} {a b d f : Value} {x : Int} {m : Bool} {p : RowsD} (h : RowsV w (.agg #[a, .int .i64 x, b, d, .bool m, f]) p) : EnvV w (.agg #[a, .int .i64 p.env.imports, b, d, .bool p.env.mem]) p.env := by
 obtain ⟨a', b', d', f', e, h1, h2, h3, h4⟩ := h
 injection e with e
 injection e with e
 simp only [List.cons.injEq, and_true] at e
 obtain ⟨rfl, _, rfl, rfl, _, rfl⟩ := e
 exact ⟨a, b, d, rfl, h1, h2, h3⟩
theorem Structs.row {w : World} {A : Option Addr} {n c : Nat} {l : List RowD} (h : Structs 5 RowC w (.slice A n c) l) {k : Nat} {x : RowD} (hx : l[k]? = some x) :
  ∃ b o p q r s, A = some ⟨b, o, none⟩ ∧ b < w.heap.size ∧ w.cell? ⟨b, o + k * 5, none⟩ = some p ∧ w.cell? ⟨b, o + k * 5 + 1, none⟩ = some q ∧ w.cell? ⟨b, o + k * 5 + 2, none⟩ = some (.int .i64 x.places) ∧ w.cell? ⟨b, o + k * 5 + 3, none⟩ = some r ∧ w.cell? ⟨b, o + k * 5 + 4, none⟩ = some s ∧
   Ints w p x.sig.inn ∧ Ints w q x.sig.out ∧ Ints w r x.params ∧ Structs 5 CodeC w s x.code := by
 obtain ⟨b, o, c', rr, e, hb, hr, ⟨p, q, r, s, rfl, h1, h2, h3, h4⟩, hc⟩ := h.at (by omega) hx
 injection e with e1 e2 e3
 exact ⟨b, o, p, q, r, s, e1, hb, hc 0 _ rfl, hc 1 _ rfl, hc 2 _ rfl, hc 3 _ rfl, hc 4 _ rfl, h1, h2, h3, h4⟩
theorem RowV.of {w : World} {p q r s : Value} {x : RowD} (h1 : Ints w p x.sig.inn) (h2 : Ints w q x.sig.out) (h3 : Ints w r x.params) (h4 : Structs 5 CodeC w s x.code) : RowV w (.agg #[p, q, .int .i64 x.places, r, s]) x := ⟨p, q, r, s, rfl, h1, h2, h3, h4⟩
theorem two_al (w : World) (a b : Obj) : Below w.heap.size w ((w.alloc a).alloc b) := ((Below.refl _ _).alloc (Nat.le_refl _) _).alloc (by simp) _
theorem blk2c {w : World} {g : Nat} {e : TypeId} {a b : Value} (k : Blk w g e #[a, b]) : w.cell? ⟨g, 0, none⟩ = some a ∧ w.cell? ⟨g, 1, none⟩ = some b := ⟨by simpa using k.cell 0, by simpa using k.cell 1⟩
/-- the six cells of a program in a block of its own -/
theorem blk6 {w : World} {g : Nat} {e : TypeId} {a b c d f h : Value} (k : Blk w g e #[a, b, c, d, f, h]) :
  w.cell? ⟨g, 0, none⟩ = some a ∧ w.cell? ⟨g, 1, none⟩ = some b ∧ w.cell? ⟨g, 2, none⟩ = some c ∧ w.cell? ⟨g, 3, none⟩ = some d ∧ w.cell? ⟨g, 4, none⟩ = some f ∧ w.cell? ⟨g, 5, none⟩ = some h :=
 ⟨by simpa using k.cell 0, by simpa using k.cell 1, by simpa using k.cell 2, by simpa using k.cell 3, by simpa using k.cell 4, by simpa using k.cell 5⟩
end Go.Bk
namespace Go.Bk.Liv
open Go Go.Bk
/-- a program that may be -/
structure ProgP (p : RowsD) : Prop where
 env : envOk p.env = true
 len : (p.fns.length : Int) + p.env.imports = p.env.sigs.length
 row : ∀ (i : Nat) r, p.fns[i]? = some r → CheckP p.env r ∧ p.env.sigs[p.env.imports.toNat + i]? = some r.sig
theorem envOk_parts {e : EnvD} (h : envOk e = true) : e.sigs.length ≤ 64 ∧ 0 ≤ e.imports ∧ e.imports ≤ e.sigs.length := by
 unfold envOk at h
 simp only [Bool.and_eq_true, decide_eq_true_eq] at h
 exact ⟨h.1.1, h.1.2.1, h.1.2.2.1⟩
end Go.Bk.Liv
namespace Go.Proofs.YtgmapikcpnffhaaGreat
open Go.RowKit Go.Bk Go.Bk.Liv
set_option linter.unusedVariables false
set_option linter.unusedSimpArgs false
def EqPost (b : Bool) (w : World) (en : Ending) (w' : World) : Prop := en = .returned (.bool b) ∧ ∃ n, w' = w.drewN n
theorem take_step {l m : List Int} {k : Nat} {x y : Int} (h : l.take k = m.take k) (hx : l[k]? = some x) (hy : m[k]? = some y) : x = y → l.take (k + 1) = m.take (k + 1) := by
 intro e
 subst e
 obtain ⟨h1, h2⟩ := List.getElem?_eq_some_iff.1 hx
 obtain ⟨h3, h4⟩ := List.getElem?_eq_some_iff.1 hy
 rw [List.take_succ_eq_append_getElem h1, List.take_succ_eq_append_getElem h3, h, h2, h4]
theorem take_ne {l m : List Int} {k : Nat} {x y : Int} (hx : l[k]? = some x) (hy : m[k]? = some y) (h : x ≠ y) : l ≠ m := by
 intro e
 subst e
 rw [hx] at hy
 injection hy with hy
 exact h hy
set_option maxRecDepth 100000 in
set_option maxHeartbeats 4000000 in
theorem Equal_any (v u : Value) (l m : List Int) (w : World) (h1 : Ints w v l) (h2 : Ints w u m) : Calls Tryz.prog 87 #[v, u] w (EqPost (decide (l = m)) w) := by
 obtain ⟨A1, c1, rfl⟩ := h1.shape
 obtain ⟨A2, c2, rfl⟩ := h2.shape
 have H1 := Lib.hid h1.ir
 have H2 := Lib.hid h2.ir
 have hn1 := h1.lenV.2.2.1
 have hn2 := h2.lenV.2.2.1
 clear h1 h2
 by_cases hlen : l.length = m.length
 ·obtain ⟨n, hn⟩ : ∃ n, l.length = n := ⟨_, rfl⟩
  have hm : m.length = n := by omega
  have HN := Lib.hid hn
  have HM := Lib.hid hm
  rw [hn] at H1 hn1 ⊢
  rw [hm] at H2 hn2 ⊢
  have q0 : ((n : Int) != (n : Int)) = false := by simp
  clear hn hm hlen
  go_enter Tryz.func87, Tryz.ntmps87
  go_wp2
  go_loopw [13] (fun i wr => ∃ k : Nat, k ≤ n ∧ i = .int .i64 k ∧ Hid (l.take k = m.take k ∧ ∃ z, wr = w.drewN z)) (fun i _ => n - (intOf i).toNat)
  case atStart => exact ⟨0, by omega, rfl, Lib.hid ⟨by simp, 0, rfl⟩⟩
  case round =>
   obtain ⟨k, hk, rfl, IM⟩ := hrel
   obtain ⟨htk, z, rfl⟩ := IM.out
   clear IM
   by_cases hlt : k < n
   ·have t1 : decide ((k : Int) < n) = true := by simp; omega
    have t2 : (k : Int) < n := by omega
    obtain ⟨x, hx⟩ : ∃ x, l[k]? = some x := ⟨_, List.getElem?_eq_getElem (by rw [HN.out]; exact hlt)⟩
    obtain ⟨y, hy⟩ : ∃ y, m[k]? = some y := ⟨_, List.getElem?_eq_getElem (by rw [HM.out]; exact hlt)⟩
    obtain ⟨b, o, rfl, hb, hc⟩ := H1.out.cell hx
    obtain ⟨b2, o2, rfl, hb2, hc2⟩ := H2.out.cell hy
    have HX := Lib.hid hx
    have HY := Lib.hid hy
    have HT := Lib.hid htk
    clear hx hy htk
    by_cases hxy : x = y
    ·have q1 : (x != y) = false := by simpa using hxy
     have HXY := Lib.hid hxy
     clear hxy
     go_wp2_with fail
     go_quiet (fail)
     go_wp2
     exact ⟨⟨k + 1, by omega, by simp, Lib.hid ⟨take_step HT.out HX.out HY.out HXY.out, _, rfl⟩⟩, by simp [intOf]; omega⟩
    ·have q1 : (x != y) = true := by simpa using hxy
     have HXY := Lib.hid hxy
     clear hxy
     go_wp2_with fail
     go_quiet (fail)
     go_wp2
     go_ret
     exact ⟨by rw [decide_eq_false (take_ne HX.out HY.out HXY.out)]; rfl, z + nq, by simp [World.drewN]; omega⟩
   ·have t1 : decide ((k : Int) < n) = false := by simp; omega
    have hlm : l = m := by
     rw [← List.take_of_length_le (l := l) (i := k) (by have := HN.out; omega), ← List.take_of_length_le (l := m) (i := k) (by have := HM.out; omega), htk]
    have HLM := Lib.hid hlm
    clear hlm htk
    go_wp2
    go_ret
    exact ⟨by rw [decide_eq_true HLM.out]; rfl, _, rfl⟩
 ·have hne : l ≠ m := fun e => hlen (by rw [e])
  have q0 : ((l.length : Int) != (m.length : Int)) = true := by simp; omega
  go_enter Tryz.func87, Tryz.ntmps87
  go_wp2
  go_ret
  exact ⟨by rw [decide_eq_false hne]; rfl, 0, rfl⟩
set_option maxRecDepth 100000 in
set_option maxHeartbeats 4000000 in
theorem RInts_any (v u : Value) (l m : List Int) (w : World) (h1 : Ints w v l) (h2 : Ints w u m) : Calls Tryz.prog 88 #[v, u] w (EqPost (decide (l = m)) w) := by
 obtain ⟨A1, c1, rfl⟩ := h1.shape
 obtain ⟨A2, c2, rfl⟩ := h2.shape
 have H1 := Lib.hid h1.ir
 have H2 := Lib.hid h2.ir
 have hn1 := h1.lenV.2.2.1
 have hn2 := h2.lenV.2.2.1
 clear h1 h2
 by_cases hlen : l.length = m.length
 ·obtain ⟨n, hn⟩ : ∃ n, l.length = n := ⟨_, rfl⟩
  have hm : m.length = n := by omega
  have HN := Lib.hid hn
  have HM := Lib.hid hm
  rw [hn] at H1 hn1 ⊢
  rw [hm] at H2 hn2 ⊢
  have q0 : ((n : Int) != (n : Int)) = false := by simp
  clear hn hm hlen
  go_enter Tryz.func88, Tryz.ntmps88
  go_wp2
  go_loopw [5] (fun i wr => ∃ k : Nat, k ≤ n ∧ i = .int .i64 k ∧ Hid (l.take k = m.take k ∧ ∃ z, wr = w.drewN z)) (fun i _ => n - (intOf i).toNat)
  case atStart => exact ⟨0, by omega, rfl, Lib.hid ⟨by simp, 0, rfl⟩⟩
  case round =>
   obtain ⟨k, hk, rfl, IM⟩ := hrel
   obtain ⟨htk, z, rfl⟩ := IM.out
   clear IM
   by_cases hlt : k < n
   ·have t1 : decide ((k : Int) < n) = true := by simp; omega
    have t2 : (k : Int) < n := by omega
    obtain ⟨x, hx⟩ : ∃ x, l[k]? = some x := ⟨_, List.getElem?_eq_getElem (by rw [HN.out]; exact hlt)⟩
    obtain ⟨y, hy⟩ : ∃ y, m[k]? = some y := ⟨_, List.getElem?_eq_getElem (by rw [HM.out]; exact hlt)⟩
    obtain ⟨b, o, rfl, hb, hc⟩ := H1.out.cell hx
    obtain ⟨b2, o2, rfl, hb2, hc2⟩ := H2.out.cell hy
    have HX := Lib.hid hx
    have HY := Lib.hid hy
    have HT := Lib.hid htk
    clear hx hy htk
    by_cases hxy : x = y
    ·have q1 : (x != y) = false := by simpa using hxy
     have HXY := Lib.hid hxy
     clear hxy
     go_wp2_with fail
     go_quiet (fail)
     go_wp2
     exact ⟨⟨k + 1, by omega, by simp, Lib.hid ⟨take_step HT.out HX.out HY.out HXY.out, _, rfl⟩⟩, by simp [intOf]; omega⟩
    ·have q1 : (x != y) = true := by simpa using hxy
     have HXY := Lib.hid hxy
     clear hxy
     go_wp2_with fail
     go_quiet (fail)
     go_wp2
     go_ret
     exact ⟨by rw [decide_eq_false (take_ne HX.out HY.out HXY.out)]; rfl, z + nq, by simp [World.drewN]; omega⟩
   ·have t1 : decide ((k : Int) < n) = false := by simp; omega
    have hlm : l = m := by
     rw [← List.take_of_length_le (l := l) (i := k) (by have := HN.out; omega), ← List.take_of_length_le (l := m) (i := k) (by have := HM.out; omega), htk]
    have HLM := Lib.hid hlm
    clear hlm htk
    go_wp2
    go_ret
    exact ⟨by rw [decide_eq_true HLM.out]; rfl, _, rfl⟩
 ·have hne : l ≠ m := fun e => hlen (by rw [e])
  have q0 : ((l.length : Int) != (m.length : Int)) = true := by simp; omega
  go_enter Tryz.func88, Tryz.ntmps88
  go_wp2
  go_ret
  exact ⟨by rw [decide_eq_false hne]; rfl, 0, rfl⟩
def sameS (s t : SigD) : Bool := decide (s.inn = t.inn) && decide (s.out = t.out)
theorem sameS_iff {s t : SigD} : sameS s t = true ↔ s = t := by
 cases s
 cases t
 simp [sameS]
set_option maxRecDepth 100000 in
set_option maxHeartbeats 4000000 in
theorem SameSig_any (a b c d : Value) (s t : SigD) (w : World) (ha : Ints w a s.inn) (hb : Ints w b s.out) (hc : Ints w c t.inn) (hd : Ints w d t.out) : Calls Tryz.prog 54 #[.agg #[a, b], .agg #[c, d]] w fun en w' => en = .returned (.bool (sameS s t)) ∧ Below w.heap.size w w' := by
 have HB := Lib.hid (two_al w (.cells #[a, b] 28) (.cells #[c, d] 28))
 have h1 := Lib.hid (ha.below HB.out (Nat.le_refl _))
 have h2 := Lib.hid (hb.below HB.out (Nat.le_refl _))
 have h3 := Lib.hid (hc.below HB.out (Nat.le_refl _))
 have h4 := Lib.hid (hd.below HB.out (Nat.le_refl _))
 have K1 := Blk.alloc (Blk.new w 28 #[a, b]) (.cells #[c, d] 28)
 have K2 := Blk.newAt (w.alloc (.cells #[a, b] 28)) (N := w.heap.size + 1) 28 #[c, d] (by simp)
 unfold sameS
 clear ha hb hc hd
 go_enter Tryz.func54, Tryz.ntmps54
 go_wp2_with fail
 (with_reducible refine (RInts_any _ _ _ _ _ h1.out h3.out).mono ?_)
 rintro en w1 ⟨rfl, z, rfl⟩
 have HB1 := Lib.hid (below_drewN HB.out z)
 cases hq : decide (s.inn = t.inn)
 ·go_wp2
  go_ret
  exact ⟨by rw [hq]; rfl, HB1.out⟩
 ·obtain ⟨e0, e1⟩ := blk2c (Blk.drewN K1 z)
  obtain ⟨f0, f1⟩ := blk2c (Blk.drewN K2 z)
  have y1 := Blk.lt (Blk.drewN K1 z)
  have y2 := Blk.lt (Blk.drewN K2 z)
  go_wp2_with fail
  (with_reducible refine (RInts_any _ _ _ _ _ (h2.out.below (below_drewN (Below.refl _ _) z) (Nat.le_refl _)) (h4.out.below (below_drewN (Below.refl _ _) z) (Nat.le_refl _))).mono ?_)
  rintro en w2 ⟨rfl, z2, rfl⟩
  have HB2 := Lib.hid (below_drewN HB1.out z2)
  go_wp2
  go_ret
  exact ⟨by rw [hq]; rfl, below_drewN HB.out _⟩
end Go.Proofs.YtgmapikcpnffhaaGreat
namespace Go.Proofs.YtgmapikcpnffhaaGreat
open Go.RowKit Go.Bk Go.Bk.Liv
set_option linter.unusedVariables false
set_option linter.unusedSimpArgs false
def LrPost (p : RowsD) (w : World) (en : Ending) (w' : World) : Prop := ∃ b : Bool, en = .returned (.bool b) ∧ (b = true ↔ ProgP p) ∧ Below w.heap.size w w'
def LrInv (p : RowsD) (M : Nat) (w1 : World) (k : Nat) (wr : World) : Prop := Below w1.heap.size w1 wr ∧ ∀ (j : Nat) r, j < k → p.fns[j]? = some r → CheckP p.env r ∧ p.env.sigs[M + j]? = some r.sig
theorem LrInv.step {p : RowsD} {M k : Nat} {w1 wr w' : World} {r : RowD} {s : SigD} (h : LrInv p M w1 k wr) (hr : p.fns[k]? = some r) (hs : p.env.sigs[M + k]? = some s) (h1 : s.inn = r.sig.inn) (h2 : s.out = r.sig.out) (hc : CheckP p.env r) (hb : Below wr.heap.size wr w') : LrInv p M w1 (k + 1) w' := by
 refine ⟨h.1.trans (hb.mono h.1.size), fun j q hj hq => ?_⟩
 rcases Nat.lt_succ_iff_lt_or_eq.1 hj with hj | rfl
 ·exact h.2 j q hj hq
 ·rw [hr] at hq
  injection hq with hq
  subst hq
  refine ⟨hc, ?_⟩
  rw [hs]
  obtain ⟨a, b⟩ := s
  have h1 : a = r.sig.inn := h1
  have h2 : b = r.sig.out := h2
  subst h1
  subst h2
  rfl
set_option maxRecDepth 100000 in
set_option maxHeartbeats 8000000 in
theorem LRight_any (p : RowsD) (v : Value) (w : World) (hv : RowsV w v p) : Calls Tryz.prog 52 #[v] w (LrPost p w) := by
 obtain ⟨a, b, d, f, rfl, h1, h2, h3, h4⟩ := hv
 have HE0 := Lib.hid (show EnvV w (.agg #[a, .int .i64 p.env.imports, b, d, .bool p.env.mem]) p.env from ⟨a, b, d, rfl, h1, h2, h3⟩)
 obtain ⟨sA, sc, rfl, _, hsl, _⟩ := h1.len
 obtain ⟨fA, fc, rfl, _, hfl, _⟩ := h4.len
 have HS1 := Lib.hid h1
 have HS4 := Lib.hid h4
 have HB0 := Lib.hid ((Below.refl w.heap.size w).alloc (Nat.le_refl _) (.cells #[.slice sA p.env.sigs.length sc, .int .i64 p.env.imports, b, d, .bool p.env.mem, .slice fA p.fns.length fc] 52))
 have K0 := Lib.hid (Blk.new w 52 #[.slice sA p.env.sigs.length sc, .int .i64 p.env.imports, b, d, .bool p.env.mem, .slice fA p.fns.length fc])
 clear h1 h2 h3 h4
 go_enter Tryz.func52, Tryz.ntmps52
 go_wp2_with fail
 (with_reducible refine (EnvRight_any _ p.env _ (HE0.out.below HB0.out (Nat.le_refl _))).mono ?_)
 rintro en w1 ⟨rfl, hb1⟩
 have HB1 := Lib.hid (HB0.out.trans (hb1.mono HB0.out.size))
 have KP := Lib.hid (K0.out.below hb1 K0.out.lt)
 clear hb1
 cases hev : envOk p.env
 ·go_wp2_with fail
  go_ret
  exact ⟨false, rfl, ⟨fun h => (by cases h), fun h => (by have := h.env; rw [hev] at this; cases this)⟩, HB1.out⟩
 have hep := envOk_parts hev
 obtain ⟨M, hM⟩ : ∃ M : Nat, p.env.imports = (M : Int) := ⟨p.env.imports.toNat, by omega⟩
 obtain ⟨n, hn⟩ : ∃ n, p.fns.length = n := ⟨_, rfl⟩
 obtain ⟨L, hL⟩ : ∃ L, p.env.sigs.length = L := ⟨_, rfl⟩
 obtain ⟨S, hS⟩ : ∃ S, n + M = S := ⟨_, rfl⟩
 have HEV := Lib.hid hev
 have HM := Lib.hid hM
 have HN := Lib.hid hn
 have HL := Lib.hid hL
 have HSm := Lib.hid hS
 have hM64 : M ≤ 64 := by omega
 have hL64 : L ≤ 64 := by omega
 rw [hn] at hfl
 have w1a : IntKind.i64.wrap ((n : Int) + (M : Int)) = (S : Int) := by rw [show (n : Int) + (M : Int) = (S : Int) by omega]; exact IntWalk.i64_in _ (by omega)
 obtain ⟨e0, e1, e2, e3, e4, e5⟩ := blk6 KP.out
 rw [hM] at e1 ⊢
 rw [hL] at e0 HS1 ⊢
 rw [hn] at e5 HS4 ⊢
 have y1 := KP.out.lt
 have HE1 := Lib.hid (show ∀ w', Below w1.heap.size w1 w' → _ ∧ _ ∧ _ ∧ _ ∧ _ ∧ _ from fun w' hb' => ⟨(hb'.cell (p := ⟨w.heap.size, _, none⟩) y1).trans e0, (hb'.cell (p := ⟨w.heap.size, _, none⟩) y1).trans e1, (hb'.cell (p := ⟨w.heap.size, _, none⟩) y1).trans e2, (hb'.cell (p := ⟨w.heap.size, _, none⟩) y1).trans e3, (hb'.cell (p := ⟨w.heap.size, _, none⟩) y1).trans e4, (hb'.cell (p := ⟨w.heap.size, _, none⟩) y1).trans e5⟩)
 clear hev hep hM hn hL hS
 by_cases hSL : S = L
 ·subst hSL
  have q0 : ((S : Int) != (S : Int)) = false := by simp
  go_wp2_with fail
  go_loopw [27] (fun i wr => ∃ k : Nat, k ≤ n ∧ i = .int .i64 k ∧ Hid (LrInv p M w1 k wr)) (fun i _ => n - (intOf i).toNat)
  case atStart => exact ⟨0, by omega, rfl, Lib.hid ⟨Below.refl _ _, fun j r hj => by omega⟩⟩
  case round =>
   clear e0 e1 e2 e3 e4 e5 q0 w1a
   obtain ⟨k, hk, rfl, IU⟩ := hrel
   by_cases hkn : k < n
   ·as_aux_lemma =>
    have t1 : decide ((k : Int) < n) = true := by simp; omega
    have t2 : (k : Int) < n := by omega
    obtain ⟨r, hr⟩ : ∃ r, p.fns[k]? = some r := ⟨_, List.getElem?_eq_getElem (by rw [HN.out]; exact hkn)⟩
    obtain ⟨X, hX⟩ : ∃ X, M + k = X := ⟨_, rfl⟩
    obtain ⟨s, hs⟩ : ∃ s, p.env.sigs[X]? = some s := ⟨_, List.getElem?_eq_getElem (by have := HSm.out; have := HL.out; omega)⟩
    have HR := Lib.hid hr
    have HSG := Lib.hid (show p.env.sigs[M + k]? = some s from hX ▸ hs)
    have w2a : IntKind.i64.wrap ((M : Int) + (k : Int)) = (X : Int) := by rw [show (M : Int) + (k : Int) = (X : Int) by omega]; exact IntWalk.i64_in _ (by have := HSm.out; omega)
    have t3 : (X : Int) < S := by have := HSm.out; omega
    have hBw := HB1.out.trans (IU.out.1.mono HB1.out.size)
    have HBW := Lib.hid hBw
    obtain ⟨fb, fo, x0, x1, x3, x4, rfl, hfb, g0, g1, g2, g3, g4, i1, i2, i3, i4⟩ := HS4.out.row hr
    obtain ⟨sb, so, u0, u1, rfl, hsb, g5, g6, i5, i6⟩ := HS1.out.sig hs
    replace g0 := (hBw.cell (p := ⟨fb, _, none⟩) hfb).trans g0
    replace g1 := (hBw.cell (p := ⟨fb, _, none⟩) hfb).trans g1
    replace g2 := (hBw.cell (p := ⟨fb, _, none⟩) hfb).trans g2
    replace g3 := (hBw.cell (p := ⟨fb, _, none⟩) hfb).trans g3
    replace g4 := (hBw.cell (p := ⟨fb, _, none⟩) hfb).trans g4
    replace g5 := (hBw.cell (p := ⟨sb, _, none⟩) hsb).trans g5
    replace g6 := (hBw.cell (p := ⟨sb, _, none⟩) hsb).trans g6
    have z1 : fb < wr.heap.size := by have := hBw.size; omega
    have z2 : sb < wr.heap.size := by have := hBw.size; omega
    obtain ⟨A0, c0, rfl⟩ := i1.shape
    obtain ⟨A1, c1, rfl⟩ := i2.shape
    obtain ⟨A3, c3, rfl⟩ := i3.shape
    obtain ⟨A4, c4, rfl, _⟩ := i4.len
    obtain ⟨B0, d0, rfl⟩ := i5.shape
    obtain ⟨B1, d1, rfl⟩ := i6.shape
    have HI1 := Lib.hid (i1.below hBw (Nat.le_refl _))
    have HI2 := Lib.hid (i2.below hBw (Nat.le_refl _))
    have HI5 := Lib.hid (i5.below hBw (Nat.le_refl _))
    have HI6 := Lib.hid (i6.below hBw (Nat.le_refl _))
    have HRV := Lib.hid ((RowV.of i1 i2 i3 i4).below hBw (Nat.le_refl _))
    obtain ⟨e0, e1, e2, e3, e4, e5⟩ := HE1.out _ IU.out.1
    have y2 : w.heap.size < wr.heap.size := Nat.lt_of_lt_of_le y1 IU.out.1.size
    have HAL := Lib.hid (two_al wr (.cells #[.slice A0 r.sig.inn.length c0, .slice A1 r.sig.out.length c1, .int .i64 r.places, .slice A3 r.params.length c3, .slice A4 r.code.length c4] 31) (.cells #[.slice B0 s.inn.length d0, .slice B1 s.out.length d1] 28))
    have KR := Lib.hid (Blk.alloc (Blk.new wr 31 #[.slice A0 r.sig.inn.length c0, .slice A1 r.sig.out.length c1, .int .i64 r.places, .slice A3 r.params.length c3, .slice A4 r.code.length c4]) (.cells #[.slice B0 s.inn.length d0, .slice B1 s.out.length d1] 28))
    have KS := Lib.hid (Blk.newAt (wr.alloc (.cells #[.slice A0 r.sig.inn.length c0, .slice A1 r.sig.out.length c1, .int .i64 r.places, .slice A3 r.params.length c3, .slice A4 r.code.length c4] 31)) (N := wr.heap.size + 1) 28 #[.slice B0 s.inn.length d0, .slice B1 s.out.length d1] (by simp))
    clear hr hs hX hBw i1 i2 i3 i4 i5 i6 hfb hsb
    go_wp2_with fail
    (with_reducible refine (Equal_any _ _ _ _ _ (HI5.out.below HAL.out (Nat.le_refl _)) (HI1.out.below HAL.out (Nat.le_refl _))).mono ?_)
    rintro en w2 ⟨rfl, z, hw2⟩
    have HB2 := Lib.hid (show Below wr.heap.size wr w2 from hw2 ▸ below_drewN HAL.out z)
    have hb2 := (show Below (((wr.alloc (.cells #[.slice A0 r.sig.inn.length c0, .slice A1 r.sig.out.length c1, .int .i64 r.places, .slice A3 r.params.length c3, .slice A4 r.code.length c4] 31)).alloc (.cells #[.slice B0 s.inn.length d0, .slice B1 s.out.length d1] 28)).heap.size) _ w2 from hw2 ▸ below_drewN (Below.refl _ _) z)
    have KR2 := Lib.hid (KR.out.below hb2 KR.out.lt)
    have KS2 := Lib.hid (KS.out.below hb2 KS.out.lt)
    clear hb2 hw2
    clear g0 g1 g2 g3 g4 g5 g6
    cases hq1 : decide (s.inn = r.sig.inn)
    ·go_wp2_with fail
     go_ret
     refine ⟨false, rfl, ⟨fun h => (by cases h), fun h => ?_⟩, HBW.out.trans (HB2.out.mono HBW.out.size)⟩
     have h1 := (h.row k r HR.out).2
     rw [show p.env.imports.toNat = M by rw [HM.out]; rfl, HSG.out] at h1
     injection h1 with h1
     rw [h1] at hq1
     simp at hq1
    ·have HQ1 := Lib.hid (of_decide_eq_true hq1)
     obtain ⟨v0, v1⟩ := blk2c KS2.out
     obtain ⟨r0, r1, r2, r3, r4⟩ := blk5 KR2.out
     have y3 := Blk.lt KS2.out
     have y4 := Blk.lt KR2.out
     go_wp2_with fail
     (with_reducible refine (Equal_any _ _ _ _ _ (HI6.out.below HB2.out (Nat.le_refl _)) (HI2.out.below HB2.out (Nat.le_refl _))).mono ?_)
     rintro en w3 ⟨rfl, z2, hw3⟩
     have hb3 := (show Below w2.heap.size w2 w3 from hw3 ▸ below_drewN (Below.refl _ _) z2)
     have HB3 := Lib.hid (HB2.out.trans (hb3.mono HB2.out.size))
     have KR3 := Lib.hid (KR2.out.below hb3 KR2.out.lt)
     clear hw3 hb3
     clear v0 v1 r0 r1 r2 r3 r4 y3 y4
     cases hq2 : decide (s.out = r.sig.out)
     ·go_wp2_with fail
      go_ret
      refine ⟨false, rfl, ⟨fun h => (by cases h), fun h => ?_⟩, HBW.out.trans (HB3.out.mono HBW.out.size)⟩
      have h1 := (h.row k r HR.out).2
      rw [show p.env.imports.toNat = M by rw [HM.out]; rfl, HSG.out] at h1
      injection h1 with h1
      rw [h1] at hq2
      simp at hq2
     ·have HQ2 := Lib.hid (of_decide_eq_true hq2)
      obtain ⟨r0, r1, r2, r3, r4⟩ := blk5 KR3.out
      have y4 := Blk.lt KR3.out
      clear e0 e1 e2 e3 e4 e5
      obtain ⟨e0, e1, e2, e3, e4, e5⟩ := HE1.out _ (IU.out.1.trans (HB3.out.mono IU.out.1.size))
      go_wp2_with fail
      (with_reducible refine (Check_any p.env r _ _ _ ?_ (HRV.out.below HB3.out (Nat.le_refl _))).mono ?_)
      ·have := (HE0.out.below (HBW.out.trans (HB3.out.mono HBW.out.size)) (Nat.le_refl _))
       rw [HM.out, HL.out] at this
       exact this
      rintro en w4 ⟨bb, rfl, hbb, hb⟩
      have HB4 := Lib.hid (HB3.out.trans (hb.mono HB3.out.size))
      have HBB := Lib.hid hbb
      clear hbb hb r0 r1 r2 r3 r4 y4 e0 e1 e2 e3 e4 e5
      cases bb
      ·go_wp2_with fail
       go_ret
       refine ⟨false, rfl, ⟨fun h => (by cases h), fun h => ?_⟩, HBW.out.trans (HB4.out.mono HBW.out.size)⟩
       exact HBB.out.2 (h.row k r HR.out).1
      ·go_wp2_with fail
       exact ⟨⟨k + 1, by omega, by simp, Lib.hid (IU.out.step HR.out HSG.out HQ1.out HQ2.out (HBB.out.1 trivial) HB4.out)⟩, by simp [intOf]; omega⟩
   ·as_aux_lemma =>
    have t1 : decide ((k : Int) < n) = false := by simp; omega
    go_wp2_with fail
    go_ret
    refine ⟨true, rfl, ⟨fun _ => ⟨HEV.out, ?_, fun i r hi => ?_⟩, fun _ => rfl⟩, HB1.out.trans (IU.out.1.mono HB1.out.size)⟩
    ·have := HM.out; have := HN.out; have := HL.out; have := HSm.out; omega
    ·rw [show p.env.imports.toNat = M by rw [HM.out]; rfl]
     exact IU.out.2 i r (by have := (List.getElem?_eq_some_iff.1 hi).1; have := HN.out; omega) hi
 ·have q0 : ((S : Int) != (L : Int)) = true := by simp; omega
  go_wp2_with fail
  go_ret
  refine ⟨false, rfl, ⟨fun h => (by cases h), fun h => ?_⟩, HB1.out⟩
  have := h.len; have := HM.out; have := HN.out; have := HL.out; have := HSm.out; omega
end Go.Proofs.YtgmapikcpnffhaaGreat
