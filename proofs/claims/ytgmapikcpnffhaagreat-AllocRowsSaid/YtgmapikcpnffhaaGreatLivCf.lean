/-
 ContainsFunc and IndexFunc, at the closures of this program: whether some element is so.
 Conditions: the closure answers so for each element.
-/
import Derived.Test.YtgmapikcpnffhaaGreatLivPlain
namespace Go.Bk
open Go Go.RowKit
theorem take_any {α : Type} {l : List α} {k : Nat} {p : α} {q : α → Bool} (h : l[k]? = some p) (h1 : (l.take k).any q = false) (h2 : q p = false) : (l.take (k + 1)).any q = false := by
 obtain ⟨hk', e⟩ := List.getElem?_eq_some_iff.1 h
 rw [List.take_succ_eq_append_getElem hk', e, List.any_append, h1]
 simp [h2]
theorem hit_any {α : Type} {l : List α} {k : Nat} {p : α} {q : α → Bool} (h : l[k]? = some p) (h2 : q p = true) : l.any q = true := List.any_eq_true.2 ⟨p, List.mem_of_getElem? h, h2⟩
theorem IR.cell {w : World} {A : Option Addr} {n c : Nat} {l : List Int} (h : IR w (.slice A n c) l) {k : Nat} {x : Int} (hx : l[k]? = some x) : ∃ b o, A = some ⟨b, o, none⟩ ∧ b < w.heap.size ∧ w.cell? ⟨b, o + k, none⟩ = some (.int .i64 x) := by
 obtain ⟨A', c', e, hs⟩ := h
 injection e with e1 e2 e3
 subst e1
 obtain ⟨hk, e⟩ := List.getElem?_eq_some_iff.1 hx
 obtain ⟨b, o, rfl, hb⟩ := hs.addr (by omega)
 have := hs.at_ (k := k) hk
 rw [i64s_at hk, e] at this
 exact ⟨b, o, rfl, hb, this⟩
theorem IR.len {w : World} {A : Option Addr} {n c : Nat} {l : List Int} (h : IR w (.slice A n c) l) : n = l.length := by
 obtain ⟨A', c', e, hs⟩ := h
 injection e
theorem Structs.sig {w : World} {A : Option Addr} {n c : Nat} {l : List SigD} (h : Structs 2 SigC w (.slice A n c) l) {k : Nat} {x : SigD} (hx : l[k]? = some x) :
  ∃ b o p q, A = some ⟨b, o, none⟩ ∧ b < w.heap.size ∧ w.cell? ⟨b, o + k * 2, none⟩ = some p ∧ w.cell? ⟨b, o + k * 2 + 1, none⟩ = some q ∧ Ints w p x.inn ∧ Ints w q x.out := by
 obtain ⟨b, o, c', r, e, hb, hr, ⟨p, q, rfl, h1, h2⟩, hc⟩ := h.at (by omega) hx
 injection e with e1 e2 e3
 exact ⟨b, o, p, q, e1, hb, hc 0 p rfl, hc 1 q rfl, h1, h2⟩
theorem Structs.code {w : World} {A : Option Addr} {n c : Nat} {l : List CodeD} (h : Structs 5 CodeC w (.slice A n c) l) {k : Nat} {x : CodeD} (hx : l[k]? = some x) :
  ∃ b o p q r, A = some ⟨b, o, none⟩ ∧ b < w.heap.size ∧ w.cell? ⟨b, o + k * 5, none⟩ = some (.int .i64 x.op) ∧ w.cell? ⟨b, o + k * 5 + 1, none⟩ = some (.int .u64 (x.n : Int)) ∧ w.cell? ⟨b, o + k * 5 + 2, none⟩ = some p ∧ w.cell? ⟨b, o + k * 5 + 3, none⟩ = some q ∧ w.cell? ⟨b, o + k * 5 + 4, none⟩ = some r ∧
   x.ok ∧ Ints w p x.args ∧ Ints w q x.outs ∧ Ints w r x.to := by
 obtain ⟨b, o, c', rr, e, hb, hr, ⟨p, q, r, rfl, h0, h1, h2, h3⟩, hc⟩ := h.at (by omega) hx
 injection e with e1 e2 e3
 exact ⟨b, o, p, q, r, e1, hb, hc 0 _ rfl, hc 1 _ rfl, hc 2 _ rfl, hc 3 _ rfl, hc 4 _ rfl, h0, h1, h2, h3⟩
theorem Structs.lenV {α : Type} {k : Nat} {R : World → List Value → α → Prop} {w : World} {A : Option Addr} {n c : Nat} {l : List α} (h : Structs k R w (.slice A n c) l) : n = l.length ∧ n ≤ c ∧ n ≤ 140737488351232 ∧ c ≤ 9223372036854775807 := by
 obtain ⟨A', c', e, h1, h2⟩ := h.len
 injection e with e1 e2 e3
 subst e2
 subst e3
 exact ⟨rfl, h1, h2⟩
theorem Ints.lenV {w : World} {A : Option Addr} {n c : Nat} {l : List Int} (h : Ints w (.slice A n c) l) : n = l.length ∧ n ≤ c ∧ n ≤ 17592186043904 ∧ c ≤ 9223372036854775807 := by
 obtain ⟨A', c', e, hs, h1, h2, h3⟩ := h
 injection e with e1 e2 e3
 subst e3
 exact ⟨e2, by omega, by omega, by omega⟩
theorem Ints.shape {w : World} {v : Value} {l : List Int} (h : Ints w v l) : ∃ A c, v = .slice A l.length c := by
 obtain ⟨A, c, e, _⟩ := h
 exact ⟨A, c, e⟩
theorem IR.shape {w : World} {v : Value} {l : List Int} (h : IR w v l) : ∃ A c, v = .slice A l.length c := by
 obtain ⟨A, c, e, _⟩ := h
 exact ⟨A, c, e⟩
theorem any_neg {α : Type} (l : List α) (p : α → Bool) : (!(l.any fun x => !p x)) = l.all p := by
 induction l with
 | nil => rfl
 | cons a l ih => simp only [List.any_cons, List.all_cons, Bool.not_or, Bool.not_not, ih]
end Go.Bk
namespace Go.Proofs.YtgmapikcpnffhaaGreat
open Go.RowKit Go.Bk Go.Bk.Liv
set_option linter.unusedVariables false
set_option linter.unusedSimpArgs false


set_option maxRecDepth 100000 in
set_option maxHeartbeats 2000000 in
theorem ix_kinds1_any (A : Option Addr) (n c : Nat) (l : List Int) (Q : Int → Bool) (w : World) (hs : IR w (.slice A n c) l) (hm : n ≤ 9223372036854775807)
  (hq : ∀ x ∈ l, ∀ v w', Below w.heap.size w w' → v = .int .i64 x → Calls Tryz.prog 117 #[v] w' fun e w2 => e = .returned (.bool (Q x)) ∧ Below w'.heap.size w' w2) :
  Calls Tryz.prog 120 #[.slice A n c, .func (.func 117) #[] #[]] w fun e w' => ∃ r : Int, e = .returned (.int .i64 r) ∧ decide (0 ≤ r) = l.any Q ∧ Below w.heap.size w w' := by
 have hl := hs.len
 have HS := Lib.hid hs
 have HL := Lib.hid hl
 have HQ := Lib.hid hq
 clear hs hq hl
 go_enter Tryz.func120, Tryz.ntmps120
 go_wp2
 go_loopw [8] (fun i wr => ∃ k : Nat, k ≤ n ∧ i = .int .i64 k ∧ Hid ((l.take k).any Q = false) ∧ Hid (Below w.heap.size w wr)) (fun i _ => n - (intOf i).toNat)
 case atStart => exact ⟨0, by omega, rfl, Lib.hid rfl, Lib.hid (Below.refl _ _)⟩
 case round =>
  obtain ⟨k, hk, rfl, IA, IB⟩ := hrel
  by_cases hlt : k < n
  ·have hlt' : decide ((k : Int) < n) = true := by simp; omega
   have hlt2 : (k : Int) < n := by omega
   obtain ⟨x, hx⟩ : ∃ x, l[k]? = some x := ⟨_, List.getElem?_eq_getElem (by rw [← HL.out]; exact hlt)⟩
   obtain ⟨ab, ao, rfl, hab, hcl⟩ := (HS.out.below IB.out (Nat.le_refl _)).cell hx
   have HX := Lib.hid hx
   have hbz := IB.out.size
   have HC := Lib.hid (HQ.out x (List.mem_of_getElem? hx))
   clear hx
   cases hh : Q x with
   | true =>
    have HH := Lib.hid hh
    clear hh
    go_wp2_with fail
    refine (HC.out _ _ IB.out rfl).mono ?_
    rintro e w1 ⟨rfl, hb1⟩
    rw [HH.out]
    have IB1 := Lib.hid (IB.out.trans (hb1.mono hbz))
    clear hb1
    go_wp2
    go_ret
    exact ⟨k, rfl, by rw [hit_any HX.out HH.out]; simp, IB1.out⟩
   | false =>
    have HH := Lib.hid hh
    clear hh
    go_wp2_with fail
    refine (HC.out _ _ IB.out rfl).mono ?_
    rintro e w1 ⟨rfl, hb1⟩
    rw [HH.out]
    have IB1 := Lib.hid (IB.out.trans (hb1.mono hbz))
    clear hb1
    go_wp2
    exact ⟨⟨k + 1, by omega, by simp, Lib.hid (take_any HX.out IA.out HH.out), IB1⟩, by simp [intOf]; omega⟩
  ·have hlt' : decide ((k : Int) < n) = false := by simp; omega
   go_wp2
   go_ret
   refine ⟨-1, rfl, ?_, IB.out⟩
   have := IA.out
   rw [List.take_of_length_le (by rw [← HL.out]; omega)] at this
   rw [this]; rfl
theorem cf_kinds1_any (A : Option Addr) (n c : Nat) (l : List Int) (Q : Int → Bool) (w : World) (hs : IR w (.slice A n c) l) (hm : n ≤ 9223372036854775807)
  (hq : ∀ x ∈ l, ∀ v w', Below w.heap.size w w' → v = .int .i64 x → Calls Tryz.prog 117 #[v] w' fun e w2 => e = .returned (.bool (Q x)) ∧ Below w'.heap.size w' w2) :
  Calls Tryz.prog 98 #[.slice A n c, .func (.func 117) #[] #[]] w fun e w' => e = .returned (.bool (l.any Q)) ∧ Below w.heap.size w w' := by
 have HS := Lib.hid hs
 have HQ := Lib.hid hq
 clear hs hq
 go_enter Tryz.func98, Tryz.ntmps98
 go_wp2_with fail
 refine (ix_kinds1_any A n c l Q _ HS.out hm HQ.out).mono ?_
 rintro e w1 ⟨r, rfl, hr, hb1⟩
 have HR := Lib.hid hr
 have HB := Lib.hid hb1
 clear hr hb1
 go_wp2
 go_ret
 exact ⟨by rw [← HR.out]; rfl, HB.out⟩


set_option maxRecDepth 100000 in
set_option maxHeartbeats 2000000 in
theorem ix_within1_any (A : Option Addr) (n c : Nat) (l : List Int) (Q : Int → Bool) (b0 : Nat) (w : World) (hs : IR w (.slice A n c) l) (hm : n ≤ 9223372036854775807)
  (hq : ∀ x ∈ l, ∀ v w', Below w.heap.size w w' → v = .int .i64 x → Calls Tryz.prog 99 #[v, .pointer (some ⟨b0, 0, none⟩)] w' fun e w2 => e = .returned (.bool (Q x)) ∧ Below w'.heap.size w' w2) :
  Calls Tryz.prog 120 #[.slice A n c, .func (.func 99) #[] #[.pointer (some ⟨b0, 0, none⟩)]] w fun e w' => ∃ r : Int, e = .returned (.int .i64 r) ∧ decide (0 ≤ r) = l.any Q ∧ Below w.heap.size w w' := by
 have hl := hs.len
 have HS := Lib.hid hs
 have HL := Lib.hid hl
 have HQ := Lib.hid hq
 clear hs hq hl
 go_enter Tryz.func120, Tryz.ntmps120
 go_wp2
 go_loopw [8] (fun i wr => ∃ k : Nat, k ≤ n ∧ i = .int .i64 k ∧ Hid ((l.take k).any Q = false) ∧ Hid (Below w.heap.size w wr)) (fun i _ => n - (intOf i).toNat)
 case atStart => exact ⟨0, by omega, rfl, Lib.hid rfl, Lib.hid (Below.refl _ _)⟩
 case round =>
  obtain ⟨k, hk, rfl, IA, IB⟩ := hrel
  by_cases hlt : k < n
  ·have hlt' : decide ((k : Int) < n) = true := by simp; omega
   have hlt2 : (k : Int) < n := by omega
   obtain ⟨x, hx⟩ : ∃ x, l[k]? = some x := ⟨_, List.getElem?_eq_getElem (by rw [← HL.out]; exact hlt)⟩
   obtain ⟨ab, ao, rfl, hab, hcl⟩ := (HS.out.below IB.out (Nat.le_refl _)).cell hx
   have HX := Lib.hid hx
   have hbz := IB.out.size
   have HC := Lib.hid (HQ.out x (List.mem_of_getElem? hx))
   clear hx
   cases hh : Q x with
   | true =>
    have HH := Lib.hid hh
    clear hh
    go_wp2_with fail
    refine (HC.out _ _ IB.out rfl).mono ?_
    rintro e w1 ⟨rfl, hb1⟩
    rw [HH.out]
    have IB1 := Lib.hid (IB.out.trans (hb1.mono hbz))
    clear hb1
    go_wp2
    go_ret
    exact ⟨k, rfl, by rw [hit_any HX.out HH.out]; simp, IB1.out⟩
   | false =>
    have HH := Lib.hid hh
    clear hh
    go_wp2_with fail
    refine (HC.out _ _ IB.out rfl).mono ?_
    rintro e w1 ⟨rfl, hb1⟩
    rw [HH.out]
    have IB1 := Lib.hid (IB.out.trans (hb1.mono hbz))
    clear hb1
    go_wp2
    exact ⟨⟨k + 1, by omega, by simp, Lib.hid (take_any HX.out IA.out HH.out), IB1⟩, by simp [intOf]; omega⟩
  ·have hlt' : decide ((k : Int) < n) = false := by simp; omega
   go_wp2
   go_ret
   refine ⟨-1, rfl, ?_, IB.out⟩
   have := IA.out
   rw [List.take_of_length_le (by rw [← HL.out]; omega)] at this
   rw [this]; rfl
theorem cf_within1_any (A : Option Addr) (n c : Nat) (l : List Int) (Q : Int → Bool) (b0 : Nat) (w : World) (hs : IR w (.slice A n c) l) (hm : n ≤ 9223372036854775807)
  (hq : ∀ x ∈ l, ∀ v w', Below w.heap.size w w' → v = .int .i64 x → Calls Tryz.prog 99 #[v, .pointer (some ⟨b0, 0, none⟩)] w' fun e w2 => e = .returned (.bool (Q x)) ∧ Below w'.heap.size w' w2) :
  Calls Tryz.prog 98 #[.slice A n c, .func (.func 99) #[] #[.pointer (some ⟨b0, 0, none⟩)]] w fun e w' => e = .returned (.bool (l.any Q)) ∧ Below w.heap.size w w' := by
 have HS := Lib.hid hs
 have HQ := Lib.hid hq
 clear hs hq
 go_enter Tryz.func98, Tryz.ntmps98
 go_wp2_with fail
 refine (ix_within1_any A n c l Q b0 _ HS.out hm HQ.out).mono ?_
 rintro e w1 ⟨r, rfl, hr, hb1⟩
 have HR := Lib.hid hr
 have HB := Lib.hid hb1
 clear hr hb1
 go_wp2
 go_ret
 exact ⟨by rw [← HR.out]; rfl, HB.out⟩


set_option maxRecDepth 100000 in
set_option maxHeartbeats 2000000 in
theorem ix_envright1_any (A : Option Addr) (n c : Nat) (l : List SigD) (Q : SigD → Bool) (w : World) (hs : Structs 2 SigC w (.slice A n c) l) (hm : n ≤ 9223372036854775807)
  (hq : ∀ x ∈ l, ∀ v w', Below w.heap.size w w' → SigV w' v x → Calls Tryz.prog 96 #[v] w' fun e w2 => e = .returned (.bool (Q x)) ∧ Below w'.heap.size w' w2) :
  Calls Tryz.prog 119 #[.slice A n c, .func (.func 96) #[] #[]] w fun e w' => ∃ r : Int, e = .returned (.int .i64 r) ∧ decide (0 ≤ r) = l.any Q ∧ Below w.heap.size w w' := by
 obtain ⟨hl, hcap, hcapm⟩ := hs.lenV
 have HS := Lib.hid hs
 have HL := Lib.hid hl
 have HQ := Lib.hid hq
 clear hs hq hl
 go_enter Tryz.func119, Tryz.ntmps119
 go_wp2
 go_loopw [8] (fun i wr => ∃ k : Nat, k ≤ n ∧ i = .int .i64 k ∧ Hid ((l.take k).any Q = false) ∧ Hid (Below w.heap.size w wr)) (fun i _ => n - (intOf i).toNat)
 case atStart => exact ⟨0, by omega, rfl, Lib.hid rfl, Lib.hid (Below.refl _ _)⟩
 case round =>
  obtain ⟨k, hk, rfl, IA, IB⟩ := hrel
  by_cases hlt : k < n
  ·have hlt' : decide ((k : Int) < n) = true := by simp; omega
   have hlt2 : (k : Int) < n := by omega
   obtain ⟨x, hx⟩ : ∃ x, l[k]? = some x := ⟨_, List.getElem?_eq_getElem (by rw [← HL.out]; exact hlt)⟩
   obtain ⟨ab, ao, p, q, rfl, hab, c0, c1, s0, s1⟩ := (HS.out.below IB.out (Nat.le_refl _) (fun _ _ h => h.below IB.out (Nat.le_refl _))).sig hx
   obtain ⟨pA, pc, rfl⟩ := s0.shape
   obtain ⟨qA, qc, rfl⟩ := s1.shape
   have HSV := Lib.hid (show SigV wr (.agg #[_, _]) x from ⟨_, _, rfl, s0, s1⟩)
   clear s0 s1
   have HX := Lib.hid hx
   have hbz := IB.out.size
   have HC := Lib.hid (HQ.out x (List.mem_of_getElem? hx))
   clear hx
   cases hh : Q x with
   | true =>
    have HH := Lib.hid hh
    clear hh
    go_wp2_with fail
    refine (HC.out _ _ IB.out HSV.out).mono ?_
    rintro e w1 ⟨rfl, hb1⟩
    rw [HH.out]
    have IB1 := Lib.hid (IB.out.trans (hb1.mono hbz))
    clear hb1
    go_wp2
    go_ret
    exact ⟨k, rfl, by rw [hit_any HX.out HH.out]; simp, IB1.out⟩
   | false =>
    have HH := Lib.hid hh
    clear hh
    go_wp2_with fail
    refine (HC.out _ _ IB.out HSV.out).mono ?_
    rintro e w1 ⟨rfl, hb1⟩
    rw [HH.out]
    have IB1 := Lib.hid (IB.out.trans (hb1.mono hbz))
    clear hb1
    go_wp2
    exact ⟨⟨k + 1, by omega, by simp, Lib.hid (take_any HX.out IA.out HH.out), IB1⟩, by simp [intOf]; omega⟩
  ·have hlt' : decide ((k : Int) < n) = false := by simp; omega
   go_wp2
   go_ret
   refine ⟨-1, rfl, ?_, IB.out⟩
   have := IA.out
   rw [List.take_of_length_le (by rw [← HL.out]; omega)] at this
   rw [this]; rfl
theorem cf_envright1_any (A : Option Addr) (n c : Nat) (l : List SigD) (Q : SigD → Bool) (w : World) (hs : Structs 2 SigC w (.slice A n c) l) (hm : n ≤ 9223372036854775807)
  (hq : ∀ x ∈ l, ∀ v w', Below w.heap.size w w' → SigV w' v x → Calls Tryz.prog 96 #[v] w' fun e w2 => e = .returned (.bool (Q x)) ∧ Below w'.heap.size w' w2) :
  Calls Tryz.prog 95 #[.slice A n c, .func (.func 96) #[] #[]] w fun e w' => e = .returned (.bool (l.any Q)) ∧ Below w.heap.size w w' := by
 have HS := Lib.hid hs
 have HQ := Lib.hid hq
 clear hs hq
 go_enter Tryz.func95, Tryz.ntmps95
 go_wp2_with fail
 refine (ix_envright1_any A n c l Q _ HS.out hm HQ.out).mono ?_
 rintro e w1 ⟨r, rfl, hr, hb1⟩
 have HR := Lib.hid hr
 have HB := Lib.hid hb1
 clear hr hb1
 go_wp2
 go_ret
 exact ⟨by rw [← HR.out]; rfl, HB.out⟩


set_option maxRecDepth 100000 in
set_option maxHeartbeats 2000000 in
theorem ix_check1_any (A : Option Addr) (n c : Nat) (l : List CodeD) (Q : CodeD → Bool) (b0 b1 : Nat) (w : World) (hs : Structs 5 CodeC w (.slice A n c) l) (hm : n ≤ 9223372036854775807)
  (hq : ∀ x ∈ l, ∀ v w', Below w.heap.size w w' → CodeV w' v x → Calls Tryz.prog 64 #[v, .pointer (some ⟨b0, 0, none⟩), .pointer (some ⟨b1, 0, none⟩)] w' fun e w2 => e = .returned (.bool (Q x)) ∧ Below w'.heap.size w' w2) :
  Calls Tryz.prog 100 #[.slice A n c, .func (.func 64) #[] #[.pointer (some ⟨b0, 0, none⟩), .pointer (some ⟨b1, 0, none⟩)]] w fun e w' => ∃ r : Int, e = .returned (.int .i64 r) ∧ decide (0 ≤ r) = l.any Q ∧ Below w.heap.size w w' := by
 obtain ⟨hl, hcap, hcapm⟩ := hs.lenV
 have HS := Lib.hid hs
 have HL := Lib.hid hl
 have HQ := Lib.hid hq
 clear hs hq hl
 go_enter Tryz.func100, Tryz.ntmps100
 go_wp2
 go_loopw [8] (fun i wr => ∃ k : Nat, k ≤ n ∧ i = .int .i64 k ∧ Hid ((l.take k).any Q = false) ∧ Hid (Below w.heap.size w wr)) (fun i _ => n - (intOf i).toNat)
 case atStart => exact ⟨0, by omega, rfl, Lib.hid rfl, Lib.hid (Below.refl _ _)⟩
 case round =>
  obtain ⟨k, hk, rfl, IA, IB⟩ := hrel
  by_cases hlt : k < n
  ·have hlt' : decide ((k : Int) < n) = true := by simp; omega
   have hlt2 : (k : Int) < n := by omega
   obtain ⟨x, hx⟩ : ∃ x, l[k]? = some x := ⟨_, List.getElem?_eq_getElem (by rw [← HL.out]; exact hlt)⟩
   obtain ⟨ab, ao, p, q, r, rfl, hab, c0, c1, c2, c3, c4, s0, s1, s2, s3⟩ := (HS.out.below IB.out (Nat.le_refl _) (fun _ _ h => h.below IB.out (Nat.le_refl _))).code hx
   obtain ⟨pA, pc, rfl⟩ := s1.shape
   obtain ⟨qA, qc, rfl⟩ := s2.shape
   obtain ⟨rA, rc, rfl⟩ := s3.shape
   have HSV := Lib.hid (show CodeV wr (.agg #[.int .i64 x.op, .int .u64 (x.n : Int), _, _, _]) x from ⟨_, _, _, rfl, s0, s1, s2, s3⟩)
   clear s0 s1 s2 s3
   have HX := Lib.hid hx
   have hbz := IB.out.size
   have HC := Lib.hid (HQ.out x (List.mem_of_getElem? hx))
   clear hx
   cases hh : Q x with
   | true =>
    have HH := Lib.hid hh
    clear hh
    go_wp2_with fail
    refine (HC.out _ _ IB.out HSV.out).mono ?_
    rintro e w1 ⟨rfl, hb1⟩
    rw [HH.out]
    have IB1 := Lib.hid (IB.out.trans (hb1.mono hbz))
    clear hb1
    go_wp2
    go_ret
    exact ⟨k, rfl, by rw [hit_any HX.out HH.out]; simp, IB1.out⟩
   | false =>
    have HH := Lib.hid hh
    clear hh
    go_wp2_with fail
    refine (HC.out _ _ IB.out HSV.out).mono ?_
    rintro e w1 ⟨rfl, hb1⟩
    rw [HH.out]
    have IB1 := Lib.hid (IB.out.trans (hb1.mono hbz))
    clear hb1
    go_wp2
    exact ⟨⟨k + 1, by omega, by simp, Lib.hid (take_any HX.out IA.out HH.out), IB1⟩, by simp [intOf]; omega⟩
  ·have hlt' : decide ((k : Int) < n) = false := by simp; omega
   go_wp2
   go_ret
   refine ⟨-1, rfl, ?_, IB.out⟩
   have := IA.out
   rw [List.take_of_length_le (by rw [← HL.out]; omega)] at this
   rw [this]; rfl
theorem cf_check1_any (A : Option Addr) (n c : Nat) (l : List CodeD) (Q : CodeD → Bool) (b0 b1 : Nat) (w : World) (hs : Structs 5 CodeC w (.slice A n c) l) (hm : n ≤ 9223372036854775807)
  (hq : ∀ x ∈ l, ∀ v w', Below w.heap.size w w' → CodeV w' v x → Calls Tryz.prog 64 #[v, .pointer (some ⟨b0, 0, none⟩), .pointer (some ⟨b1, 0, none⟩)] w' fun e w2 => e = .returned (.bool (Q x)) ∧ Below w'.heap.size w' w2) :
  Calls Tryz.prog 63 #[.slice A n c, .func (.func 64) #[] #[.pointer (some ⟨b0, 0, none⟩), .pointer (some ⟨b1, 0, none⟩)]] w fun e w' => e = .returned (.bool (l.any Q)) ∧ Below w.heap.size w w' := by
 have HS := Lib.hid hs
 have HQ := Lib.hid hq
 clear hs hq
 go_enter Tryz.func63, Tryz.ntmps63
 go_wp2_with fail
 refine (ix_check1_any A n c l Q b0 b1 _ HS.out hm HQ.out).mono ?_
 rintro e w1 ⟨r, rfl, hr, hb1⟩
 have HR := Lib.hid hr
 have HB := Lib.hid hb1
 clear hr hb1
 go_wp2
 go_ret
 exact ⟨by rw [← HR.out]; rfl, HB.out⟩

end Go.Proofs.YtgmapikcpnffhaaGreat
