/-
  Rows of the call's own are read as any; the same rows are told to be; homes that are the places themselves.
  Conditions: none.
-/
import Derived.Test.YtgmapikcpnffhaaGreatARu
import Derived.Test.YtgmapikcpnffhaaGreatLivAl
import Derived.Deep.DeepCutAuto
namespace Go.Proofs.YtgmapikcpnffhaaGreat
open Go.RowKit Go.Bk Go.Bk.Liv
set_option linter.unusedVariables false
set_option linter.unusedSimpArgs false
theorem Ints.own {w : World} {base : Nat} {v : Value} {l : List Int} (h : w.ownsRow base 3 1 v l.length (i64s l)) (hl : l.length ≤ 1000000) : Ints w v l := by
  have h' := h
  rcases h.2 with ⟨rfl, hn⟩ | ⟨g, cap, cur, rfl, hb, hg, h1, h2, h3, h4⟩
  · have : l = [] := List.length_eq_zero_iff.1 hn
    subst this
    exact Ints.nil w
  · exact ⟨_, _, rfl, Bk.Src.of_own h', h1, (fun e => by cases e), by omega, by unfold maxLen at h2; omega⟩
theorem CodeO.c {w : World} {base : Nat} {cs : List Value} {c : CodeD} (h : CodeO w base cs c) (ha : c.args.length ≤ 100) (ho : c.outs.length ≤ 100) (ht : c.to.length ≤ 100) : CodeC w cs c := by
  obtain ⟨a, b, d, e, h0, h1, h2, h3⟩ := h
  exact ⟨a, b, d, e, h0, Ints.own h1 (by omega), Ints.own h2 (by omega), Ints.own h3 (by omega)⟩
theorem srcN_of_own {w : World} {base k : Nat} {e : TypeId} {A : Option Addr} {n c : Nat} {xs : List Value} (h : w.ownsRow base e k (.slice A n c) n xs) : Bk.Src w A (n * k) xs := by
  refine ⟨h.1, fun hn => ?_⟩
  rcases h.2 with ⟨h1, h2⟩ | ⟨g, cap, cur, h1, _, hg, h5, _, h6, h7⟩
  · subst h2
    simp at hn
  · injection h1 with h1 h2 h3
    subst h1
    refine ⟨g, 0, rfl, (Array.getElem?_eq_some_iff.1 hg).1, fun j u hu => ?_⟩
    have hj : j < n * k := by
      have := (List.getElem?_eq_some_iff.1 hu).1
      rwa [h.1] at this
    rw [Nat.zero_add]
    have hb : Blk w g e cur := hg
    rw [hb.cell j, ← Array.getElem?_toList]
    rw [← h7, List.getElem?_take, if_pos hj] at hu
    exact hu
theorem CodesO.structs {w : World} {base : Nat} {v : Value} {C : List CodeD} (h : CodesO w base v C) (hl : C.length ≤ 100000) (hC : ∀ c ∈ C, c.args.length ≤ 100 ∧ c.outs.length ≤ 100 ∧ c.to.length ≤ 100) : Structs 5 CodeC w v C := by
  obtain ⟨vs, h1, h2, h3⟩ := h
  obtain ⟨A, c, rfl, hc⟩ := own_shape h1
  have hcm : c ≤ 9223372036854775807 ∧ (A = none → c = 0) := by
    rcases h1.2 with ⟨e, _⟩ | ⟨g, cap, cur, e, _, _, _, h5, _⟩
    · injection e with e1 e2 e3; subst e1; subst e3; exact ⟨by omega, fun _ => rfl⟩
    · injection e with e1 e2 e3; subst e1; subst e3; exact ⟨by unfold maxLen at h5; omega, fun e => by cases e⟩
  refine ⟨A, c, vs, rfl, hc, hcm.2, ⟨by omega, hcm.1⟩, h2, fun r hr => ?_, fun i r x q1 q2 => ?_, srcN_of_own h1⟩
  · obtain ⟨i, hi, rfl⟩ := List.getElem_of_mem hr
    obtain ⟨a, b, d, e, _⟩ := h3 i _ _ (List.getElem?_eq_getElem hi) (List.getElem?_eq_getElem (by omega))
    rw [e]
    rfl
  · have := hC x (List.mem_of_getElem? q2)
    exact (h3 i r x q1 q2).c this.1 this.2.1 this.2.2
/-- homes that are the places themselves -/
def idL (P : Nat) : List Int := (List.range P).map fun i : Nat => (i : Int)
def ItPost (P : Nat) (w : World) (en : Ending) (w' : World) : Prop := ∃ g : Nat, en = .returned (.slice (some ⟨g, 0, none⟩) P P) ∧ w.heap.size ≤ g ∧ Blk w' g 3 (i64s (idL P)).toArray ∧ Below w.heap.size w w'
set_option maxHeartbeats 1000000 in
theorem itself_any (P : Nat) (w : World) (hP : P ≤ 100000) : Calls Tryz.prog 19 #[.int .i64 (P : Int)] w (ItPost P w) := by
  have mk := run_mk (P := Tryz.prog) 23 3 (.int .i64 0) 8 Tryz.underlying23 info_int rfl P (by omega) (by omega)
  have hZ : (List.replicate P (Value.int .i64 0)).toArray = (i64s (List.replicate P 0)).toArray := by simp [i64s]
  rw [hZ] at mk
  clear hZ
  go_enter Tryz.func19, Tryz.ntmps19
  go_wp2_with fail
  obtain ⟨g, hg⟩ : ∃ g, w.heap.size = g := ⟨_, rfl⟩
  obtain ⟨wO, hwO⟩ : ∃ wO, w.alloc (.cells (i64s (List.replicate P 0)).toArray 3) = wO := ⟨_, rfl⟩
  have HO0 := Lib.hid (show OrS g P 0 wO wO from ⟨_, by simp, fun i hi => by omega, hwO ▸ (Blk.newAt _ _ _ hg), Only.refl _ _⟩)
  have HB0 := Lib.hid (show Below g w wO from hwO ▸ ((Below.refl g w).alloc (Nat.le_of_eq hg.symm) _))
  have HG := Lib.hid hg
  simp only [hg]
  rw [hwO]
  clear hwO mk hg
  go_loopw [9] (fun i wr => ∃ k : Nat, k ≤ P ∧ i = .int .i64 k ∧ Hid (OrS g P k wO wr)) (fun i _ => P - (intOf i).toNat)
  case atStart => exact ⟨0, by omega, rfl, HO0⟩
  case round =>
    clear HO0
    obtain ⟨k, hk, rfl, IH⟩ := hrel
    by_cases hkP : k < P
    · have t1 : decide ((k : Int) < P) = true := by simp; omega
      have t2 : (k : Int) < P := by omega
      obtain ⟨D, h1, h2, h3, h4⟩ := IH.out
      obtain ⟨u, c1⟩ := blk_some h3 (show k < D.length by omega)
      have c2 := frozen_of_row wr g k _ _ h3
      have c3 := h3.lt
      clear h1 h2 h3 h4
      go_wp2_with fail
      exact ⟨⟨k + 1, by omega, by simp, Lib.hid (IH.out.put hkP)⟩, by simp [intOf]; omega⟩
    · have t1 : decide ((k : Int) < P) = false := by simp; omega
      have hkP2 : P = k := by omega
      subst hkP2
      obtain ⟨hk0, ho0⟩ := IH.out.done
      have HK0 := Lib.hid hk0
      have HB1 := Lib.hid (ho0.below g w (Nat.le_refl _) HB0.out)
      clear hk0 ho0 t1 IH HB0
      go_wp2_with fail
      go_ret
      exact ⟨g, rfl, Nat.le_of_eq HG.out, HK0.out, by rw [HG.out]; exact HB1.out⟩
end Go.Proofs.YtgmapikcpnffhaaGreat
