/-
 Lists that are the same are told to be; the law's small row.
 Conditions: none.
-/
import Derived.Test.YtgmapikcpnffhaaGreatLivCla
import Derived.Deep.QuietTactic
import Derived.BigQuiet
namespace Go.Bk.Liv
open Go Go.RowKit Go.Bk
/-- a slice value that reads as lists -/
def LL (w : World) (v : Value) (P : List (List Int)) : Prop := ∃ A c vs, v = .slice A P.length c ∧ Src w A P.length vs ∧ ∀ (i : Nat) u p, vs[i]? = some u → P[i]? = some p → IR w u p
theorem LL.below {w w' : World} {B : Nat} {v : Value} {P : List (List Int)} (h : LL w v P) (hb : Below B w w') (hB : w.heap.size ≤ B) : LL w' v P := by
 obtain ⟨A, c, vs, e, h1, h2⟩ := h
 exact ⟨A, c, vs, e, h1.below hb hB, fun i u p q1 q2 => (h2 i u p q1 q2).below hb hB⟩
theorem LL.drewN {w : World} {v : Value} {P : List (List Int)} (h : LL w v P) (n : Nat) : LL (w.drewN n) v P := h
theorem LL.shape {w : World} {v : Value} {P : List (List Int)} (h : LL w v P) : ∃ A c, v = .slice A P.length c := by
 obtain ⟨A, c, vs, e, _⟩ := h
 exact ⟨A, c, e⟩
/-- one of the lists -/
theorem LL.at {w : World} {A : Option Addr} {n c : Nat} {P : List (List Int)} (h : LL w (.slice A n c) P) {i : Nat} {p : List Int} (hp : P[i]? = some p) : ∃ b o B k, A = some ⟨b, o, none⟩ ∧ b < w.heap.size ∧ w.cell? ⟨b, o + i, none⟩ = some (.slice B p.length k) ∧ IR w (.slice B p.length k) p := by
 obtain ⟨A', c', vs, e, h1, h2⟩ := h
 injection e with e1 e2 e3
 subst e1
 subst e3
 have hi := (List.getElem?_eq_some_iff.1 hp).1
 obtain ⟨b, o, e, hb⟩ := h1.addr (by omega)
 subst e
 have hc := h1.at_ hi
 have hvi : i < vs.length := by rw [h1.1]; exact hi
 have hr := h2 i _ p (List.getElem?_eq_getElem hvi) hp
 obtain ⟨B, k, e⟩ := hr.shape
 rw [e] at hc hr
 exact ⟨b, o, B, k, rfl, hb, hc, hr⟩
end Go.Bk.Liv
namespace Go.Proofs.YtgmapikcpnffhaaGreat
open Go.RowKit Go.Bk Go.Bk.Liv
set_option linter.unusedVariables false
set_option linter.unusedSimpArgs false
def LsEq (w : World) (en : Ending) (w' : World) : Prop := en = .returned (.bool true) ∧ ∃ n, w' = w.drewN n
theorem drewN_drewN (w : World) (a b : Nat) : (w.drewN a).drewN b = w.drewN (a + b) := by
 simp [World.drewN]
 omega
set_option maxRecDepth 100000 in
set_option maxHeartbeats 4000000 in
theorem Lists_eq (v u : Value) (P : List (List Int)) (w : World) (h1 : LL w v P) (h2 : LL w u P) (hP : P.length ≤ 100000) (hp : ∀ p ∈ P, p.length ≤ 100000) : Calls Tryz.prog 42 #[v, u] w (LsEq w) := by
 obtain ⟨A1, c1, rfl⟩ := h1.shape
 obtain ⟨A2, c2, rfl⟩ := h2.shape
 have H1 := Lib.hid h1
 have H2 := Lib.hid h2
 have HP := Lib.hid hp
 obtain ⟨n, hn⟩ : ∃ n, P.length = n := ⟨_, rfl⟩
 rw [hn] at H1 H2 hP ⊢
 have HN := Lib.hid hn
 have q0 : ((n : Int) != (n : Int)) = false := by simp
 clear h1 h2 hp hn
 go_enter Tryz.func42, Tryz.ntmps42
 go_wp2
 go_loopw [5] (fun i wr => ∃ k : Nat, k ≤ n ∧ i = .int .i64 k ∧ Hid (∃ m, wr = w.drewN m)) (fun i _ => n - (intOf i).toNat)
 case atStart => exact ⟨0, by omega, rfl, Lib.hid ⟨0, rfl⟩⟩
 case round =>
  obtain ⟨k, hk, rfl, IM⟩ := hrel
  obtain ⟨m, rfl⟩ := IM.out
  clear IM
  by_cases hlt : k < n
  ·have hlt' : decide ((k : Int) < n) = true := by simp; omega
   have hlt2 : (k : Int) < n := by omega
   obtain ⟨p, hp⟩ : ∃ p, P[k]? = some p := ⟨_, List.getElem?_eq_getElem (by rw [HN.out]; exact hlt)⟩
   obtain ⟨b, o, B, cb, rfl, hb, hc, hr⟩ := H1.out.at hp
   obtain ⟨b2, o2, B2, cb2, rfl, hb2, hc2, hr2⟩ := H2.out.at hp
   obtain ⟨q, hq⟩ : ∃ q, p.length = q := ⟨_, rfl⟩
   have hpl := HP.out p (List.mem_of_getElem? hp)
   rw [hq] at hc hc2 hr hr2 hpl
   have HQ := Lib.hid hq
   have HR := Lib.hid hr
   have HR2 := Lib.hid hr2
   have q1 : ((q : Int) != (q : Int)) = false := by simp
   clear hp hq hr hr2
   go_wp2_with fail
   go_quiet (fail)
   go_wp2
   go_loopw [6] (fun i wr => ∃ j : Nat, j ≤ q ∧ i = .int .i64 j ∧ Hid (∃ m, wr = w.drewN m)) (fun i _ => q - (intOf i).toNat)
   case atStart => exact ⟨0, by omega, rfl, Lib.hid ⟨_, drewN_drewN _ _ _⟩⟩
   case round =>
    obtain ⟨j, hj, rfl, IM⟩ := hrel
    obtain ⟨m2, rfl⟩ := IM.out
    clear IM
    by_cases hjq : j < q
    ·have hjq' : decide ((j : Int) < q) = true := by simp; omega
     have hjq2 : (j : Int) < q := by omega
     obtain ⟨x, hx⟩ : ∃ x, p[j]? = some x := ⟨_, List.getElem?_eq_getElem (by rw [HQ.out]; exact hjq)⟩
     obtain ⟨ab, ao, rfl, hab, hcl⟩ := HR.out.cell hx
     obtain ⟨ab2, ao2, rfl, hab2, hcl2⟩ := HR2.out.cell hx
     have q2 : (x != x) = false := by simp
     clear hx
     go_wp2_with fail
     go_quiet (fail)
     go_wp2
     exact ⟨⟨j + 1, by omega, by simp, Lib.hid ⟨_, rfl⟩⟩, by simp [intOf]; omega⟩
    ·have hjq' : decide ((j : Int) < q) = false := by simp; omega
     go_wp2
     exact ⟨⟨k + 1, by omega, by simp, Lib.hid ⟨_, rfl⟩⟩, by simp [intOf]; omega⟩
  ·have hlt' : decide ((k : Int) < n) = false := by simp; omega
   go_wp2
   go_ret
   exact ⟨rfl, _, rfl⟩
theorem ints_blk {w : World} {g n : Nat} {cs : Array Value} {l : List Int} (h : Blk w g 3 cs) (hl : l.length = n) (e : i64s l = cs.toList) (hn : n ≤ 100) : Ints w (.slice (some ⟨g, 0, none⟩) n n) l := by
 subst hl
 exact ⟨_, _, rfl, by rw [e]; exact Blk.srcAll h (by have := congrArg List.length e; simpa [i64s] using this.symm), Nat.le_refl _, (fun e => by cases e), by omega⟩
def smallD : RowD := ⟨⟨[], [127]⟩, 2, [], [⟨258, 0, [], [], []⟩, ⟨256, 1, [], [0], []⟩, ⟨106, 0, [0, 0], [1], []⟩, ⟨276, 0, [1], [], []⟩]⟩
def SmPost (w : World) (en : Ending) (w' : World) : Prop := ∃ v, en = .returned v ∧ RowV w' v smallD ∧ Below w.heap.size w w'
set_option maxRecDepth 100000 in
set_option maxHeartbeats 4000000 in
theorem small_any (w : World) : Calls Tryz.prog 37 #[] w (SmPost w) := by
 go_enter Tryz.func37, Tryz.ntmps37
 go_wp2
 refine bodyPost_ret (v := .agg #[.slice none 0 0, .slice (some ⟨w.heap.size + 1, 0, none⟩) 1 1, .int .i64 2, .slice none 0 0, .slice (some ⟨w.heap.size + 1 + 1 + 1 + 1 + 1 + 1, 0, none⟩) 4 4]) (by simp [results, Tryz.results37, go_sem]) rfl ⟨_, rfl, ⟨_, _, _, _, rfl, Ints.nil _, ?_, Ints.nil _, ?_⟩, ?_⟩
 ·exact ints_blk (cs := #[.int .i64 127]) (Blk.alloc (Blk.alloc (Blk.alloc (Blk.alloc (Blk.alloc (Blk.newAt _ _ _ (by simp)) _) _) _) _) _) rfl rfl (by decide)
 ·refine ⟨_, _, [[.int .i64 258, .int .u64 0, .slice none 0 0, .slice none 0 0, .slice none 0 0], [.int .i64 256, .int .u64 1, .slice none 0 0, .slice (some ⟨w.heap.size + 1 + 1, 0, none⟩) 1 1, .slice none 0 0], [.int .i64 106, .int .u64 0, .slice (some ⟨w.heap.size + 1 + 1 + 1, 0, none⟩) 2 2, .slice (some ⟨w.heap.size + 1 + 1 + 1 + 1, 0, none⟩) 1 1, .slice none 0 0], [.int .i64 276, .int .u64 0, .slice (some ⟨w.heap.size + 1 + 1 + 1 + 1 + 1, 0, none⟩) 1 1, .slice none 0 0, .slice none 0 0]], rfl, by simp [smallD], (fun e => by cases e), by simp [smallD], rfl, by simp, ?_, ?_⟩
  ·intro i u x h1 h2
   match i, h1, h2 with
   | 0, h1, h2 =>
    injection h1 with h1; injection h2 with h2; subst h1; subst h2
    exact ⟨_, _, _, rfl, by simp [CodeD.ok], Ints.nil _, Ints.nil _, Ints.nil _⟩
   | 1, h1, h2 =>
    injection h1 with h1; injection h2 with h2; subst h1; subst h2
    exact ⟨_, _, _, rfl, by simp [CodeD.ok], Ints.nil _, ints_blk (cs := #[.int .i64 0]) (Blk.alloc (Blk.alloc (Blk.alloc (Blk.alloc (Blk.newAt _ _ _ (by simp)) _) _) _) _) rfl rfl (by decide), Ints.nil _⟩
   | 2, h1, h2 =>
    injection h1 with h1; injection h2 with h2; subst h1; subst h2
    exact ⟨_, _, _, rfl, by simp [CodeD.ok], ints_blk (cs := #[.int .i64 0, .int .i64 0]) (Blk.alloc (Blk.alloc (Blk.alloc (Blk.newAt _ _ _ (by simp)) _) _) _) rfl rfl (by decide), ints_blk (cs := #[.int .i64 1]) (Blk.alloc (Blk.alloc (Blk.newAt _ _ _ (by simp)) _) _) rfl rfl (by decide), Ints.nil _⟩
   | 3, h1, h2 =>
    injection h1 with h1; injection h2 with h2; subst h1; subst h2
    exact ⟨_, _, _, rfl, by simp [CodeD.ok], ints_blk (cs := #[.int .i64 1]) (Blk.alloc (Blk.newAt _ _ _ (by simp)) _) rfl rfl (by decide), Ints.nil _, Ints.nil _⟩
   | n + 4, h1, h2 => simp at h1
  ·exact Blk.srcAll (Blk.newAt _ _ _ (by simp)) rfl
 ·exact (((((((Below.refl _ _).alloc (Nat.le_refl _) _).alloc (by simp) _).alloc (by simp; omega) _).alloc (by simp; omega) _).alloc (by simp; omega) _).alloc (by simp; omega) _).alloc (by simp; omega) _
end Go.Proofs.YtgmapikcpnffhaaGreat
