/-
 live.Clash: which places clash.
 Conditions: none.
-/
import Derived.Test.YtgmapikcpnffhaaGreatLivCl
namespace Go.Bk.Liv
open Go Go.Bk
theorem kv_out' {L1 L2 : KV} {p y : Int} {x : Value} (h : y ∉ (L1 ++ L2).map (·.1)) (hp : y ≠ p) : y ∉ (L1 ++ (p, x) :: L2).map (·.1) := by
 simp only [List.map_append, List.map_cons, List.mem_append, List.mem_cons, not_or] at h ⊢
 exact ⟨h.1, hp, h.2⟩
def Sall (r : RowD) : Rel2 := fun a b => AtOut r a b ∨ AtPar r a b
def ReqC (r : RowD) (k : Nat) : Rel2 := fun x y => ∃ i c, i < k ∧ r.code[i]? = some c ∧ x ∈ c.outs ∧ Beh r i c y
def ReqO (r : RowD) (k : Nat) (c : CodeD) (j : Nat) : Rel2 := fun x y => ReqC r k x y ∨ (x ∈ c.outs.take j ∧ Beh r k c y)
/-- with the one Out o: live behind, but those of L -/
def ReqL (r : RowD) (k : Nat) (c : CodeD) (j : Nat) (o : Int) (t : List Int) (L : KV) : Rel2 := fun x y => ReqO r k c j x y ∨ (x = o ∧ y ∈ t ∧ y ∉ L.map (·.1) ∧ (c.op = 272 → ∀ a, c.args[0]? = some a → y ≠ a))
def ReqZ (r : RowD) (k : Nat) (c : CodeD) (j : Nat) (o : Int) (z : Nat) : Rel2 := fun x y => ReqO r k c j x y ∨ (x = o ∧ ((LiveB r k y ∧ (c.op = 272 → ∀ a, c.args[0]? = some a → y ≠ a)) ∨ y ∈ c.outs.take z))
def ReqP (r : RowD) (k : Nat) : Rel2 := fun x y => ReqC r r.code.length x y ∨ (x ∈ r.params.take k ∧ (y ∈ r.params ∨ Live r 0 y))
def ReqQ (r : RowD) (k : Nat) (a : Int) (j : Nat) : Rel2 := fun x y => ReqP r k x y ∨ (x = a ∧ y ∈ r.params.take j)
def ReqR (r : RowD) (k : Nat) (a : Int) (u : List Int) (L : KV) : Rel2 := fun x y => ReqP r k x y ∨ (x = a ∧ (y ∈ r.params ∨ (y ∈ u ∧ y ∉ L.map (·.1))))
theorem take_step {l : List Int} {j : Nat} {x y : Int} (h : l[j]? = some x) : y ∈ l.take (j + 1) ↔ y ∈ l.take j ∨ y = x := by
 obtain ⟨hk, e⟩ := List.getElem?_eq_some_iff.1 h
 rw [List.take_succ_eq_append_getElem hk, e]
 simp
theorem take_all {l : List Int} {j : Nat} {y : Int} (h : l.length ≤ j) : y ∈ l.take j ↔ y ∈ l := by rw [List.take_of_length_le h]
theorem reqC_next {r : RowD} {k : Nat} {c : CodeD} (hc : r.code[k]? = some c) {j : Nat} (hj : c.outs.length ≤ j) (x y : Int) (h : ReqC r (k + 1) x y) : ReqO r k c j x y := by
 obtain ⟨i, c', h1, h2, h3, h4⟩ := h
 by_cases e : i = k
 ·subst e
  rw [hc] at h2
  injection h2 with h2
  subst h2
  exact .inr ⟨(take_all hj).2 h3, h4⟩
 ·exact .inl ⟨i, c', by omega, h2, h3, h4⟩
theorem reqO_start {r : RowD} {k : Nat} {c : CodeD} (x y : Int) (h : ReqO r k c 0 x y) : ReqC r k x y := by
 rcases h with h | ⟨h, _⟩
 ·exact h
 ·simp at h
theorem reqL_start {r : RowD} {k j : Nat} {c : CodeD} {o : Int} {t : List Int} (x y : Int) (h : ReqL r k c j o t (setKV t) x y) : ReqO r k c j x y := by
 rcases h with h | ⟨_, h2, h3, _⟩
 ·exact h
 ·have e : (setKV t).map (·.1) = t := by simp [setKV, Function.comp_def]
  rw [e] at h3
  exact absurd h2 h3
theorem reqL_skip {r : RowD} {k j : Nat} {c : CodeD} {o p : Int} {v : Value} {t : List Int} {L1 L2 : KV} (hp : ¬ (c.op = 272 → ∀ a, c.args[0]? = some a → p ≠ a)) (x y : Int) (h : ReqL r k c j o t (L1 ++ L2) x y) : ReqL r k c j o t (L1 ++ (p, v) :: L2) x y := by
 rcases h with h | ⟨h1, h2, h3, h4⟩
 ·exact .inl h
 ·by_cases e : y = p
  ·subst e; exact absurd h4 hp
  ·exact .inr ⟨h1, h2, kv_out' h3 e, h4⟩
theorem reqL_put {r : RowD} {k j : Nat} {c : CodeD} {o p : Int} {v : Value} {t : List Int} {L1 L2 : KV} (x y : Int) (h : ReqL r k c j o t (L1 ++ L2) x y) : ReqL r k c j o t (L1 ++ (p, v) :: L2) x y ∨ (x = o ∧ y = p) := by
 rcases h with h | ⟨h1, h2, h3, h4⟩
 ·exact .inl (.inl h)
 ·by_cases e : y = p
  ·exact .inr ⟨h1, e⟩
  ·exact .inl (.inr ⟨h1, h2, kv_out' h3 e, h4⟩)
theorem reqL_done {r : RowD} {k j : Nat} {c : CodeD} {o : Int} {t : List Int} (ht : ∀ x, x ∈ t ↔ LiveB r k x) (x y : Int) (h : ReqZ r k c j o 0 x y) : ReqL r k c j o t [] x y := by
 rcases h with h | ⟨h1, ⟨h2, h3⟩ | h2⟩
 ·exact .inl h
 ·exact .inr ⟨h1, (ht y).2 h2, by simp, h3⟩
 ·simp at h2
theorem reqZ_put {r : RowD} {k j z : Nat} {c : CodeD} {o p : Int} (hz : c.outs[z]? = some p) (x y : Int) (h : ReqZ r k c j o (z + 1) x y) : ReqZ r k c j o z x y ∨ (x = o ∧ y = p) := by
 rcases h with h | ⟨h1, h2 | h2⟩
 ·exact .inl (.inl h)
 ·exact .inl (.inr ⟨h1, .inl h2⟩)
 ·rcases (take_step hz).1 h2 with h3 | h3
  ·exact .inl (.inr ⟨h1, .inr h3⟩)
  ·exact .inr ⟨h1, h3⟩
theorem reqZ_done {r : RowD} {k j z : Nat} {c : CodeD} {o : Int} (hj : c.outs[j]? = some o) (hz : c.outs.length ≤ z) (x y : Int) (h : ReqO r k c (j + 1) x y) : ReqZ r k c j o z x y := by
 rcases h with h | ⟨h1, h2⟩
 ·exact .inl (.inl h)
 ·rcases (take_step hj).1 h1 with h3 | h3
  ·exact .inl (.inr ⟨h3, h2⟩)
  ·rcases h2 with h2 | h2
   ·exact .inr ⟨h3, .inl h2⟩
   ·exact .inr ⟨h3, .inr ((take_all hz).2 h2)⟩
theorem reqP_start {r : RowD} (x y : Int) (h : ReqP r 0 x y) : ReqC r r.code.length x y := by
 rcases h with h | ⟨h, _⟩
 ·exact h
 ·simp at h
theorem reqQ_start {r : RowD} {k : Nat} {a : Int} (x y : Int) (h : ReqQ r k a 0 x y) : ReqP r k x y := by
 rcases h with h | ⟨_, h⟩
 ·exact h
 ·simp at h
theorem reqQ_put {r : RowD} {k j : Nat} {a b : Int} (hj : r.params[j]? = some b) (x y : Int) (h : ReqQ r k a (j + 1) x y) : ReqQ r k a j x y ∨ (x = a ∧ y = b) := by
 rcases h with h | ⟨h1, h2⟩
 ·exact .inl (.inl h)
 ·rcases (take_step hj).1 h2 with h3 | h3
  ·exact .inl (.inr ⟨h1, h3⟩)
  ·exact .inr ⟨h1, h3⟩
theorem reqR_start {r : RowD} {k j : Nat} {a : Int} {u : List Int} (hj : r.params.length ≤ j) (x y : Int) (h : ReqR r k a u (setKV u) x y) : ReqQ r k a j x y := by
 rcases h with h | ⟨h1, h2 | ⟨h2, h3⟩⟩
 ·exact .inl h
 ·exact .inr ⟨h1, (take_all hj).2 h2⟩
 ·have e : (setKV u).map (·.1) = u := by simp [setKV, Function.comp_def]
  rw [e] at h3
  exact absurd h2 h3
theorem reqR_put {r : RowD} {k : Nat} {a p : Int} {v : Value} {u : List Int} {L1 L2 : KV} (x y : Int) (h : ReqR r k a u (L1 ++ L2) x y) : ReqR r k a u (L1 ++ (p, v) :: L2) x y ∨ (x = a ∧ y = p) := by
 rcases h with h | ⟨h1, h2 | ⟨h2, h3⟩⟩
 ·exact .inl (.inl h)
 ·exact .inl (.inr ⟨h1, .inl h2⟩)
 ·by_cases e : y = p
  ·exact .inr ⟨h1, e⟩
  ·exact .inl (.inr ⟨h1, .inr ⟨h2, kv_out' h3 e⟩⟩)
theorem reqR_done {r : RowD} {k : Nat} {a : Int} {u : List Int} (hk : r.params[k]? = some a) (hu : ∀ x, x ∈ u ↔ Live r 0 x) (x y : Int) (h : ReqP r (k + 1) x y) : ReqR r k a u [] x y := by
 rcases h with h | ⟨h1, h2⟩
 ·exact .inl (.inl h)
 ·rcases (take_step hk).1 h1 with h3 | h3
  ·exact .inl (.inr ⟨h3, h2⟩)
  ·rcases h2 with h2 | h2
   ·exact .inr ⟨h3, .inl h2⟩
   ·exact .inr ⟨h3, .inr ⟨(hu y).2 h2, by simp⟩⟩
theorem reqP_all {r : RowD} {k : Nat} (hk : r.params.length ≤ k) (x y : Int) (h : Sall r x y) : ReqP r k x y := by
 rcases h with ⟨i, c, h1, h2, h3⟩ | ⟨h1, h2⟩
 ·exact .inl ⟨i, c, (List.getElem?_eq_some_iff.1 h1).1, h1, h2, h3⟩
 ·exact .inr ⟨(take_all hk).2 h1, h2⟩
theorem within_mem {n : Int} {l : List Int} (h : within n l = true) {x : Int} (hx : x ∈ l) : 0 ≤ x ∧ x < n := by
 have := List.all_eq_true.1 h x hx
 simpa using this
/-- a copy has one Arg -/
theorem move_args {e : EnvD} {r : RowD} {c : CodeD} (h : codeOk e r c = true) (ho : c.op = 272) : c.args.length = 1 := by
 unfold codeOk at h
 rw [ho] at h
 unfold formV at h
 simp only [show ((272 : Int) = 256) = False by simp, if_false, if_true] at h
 split at h
 ·cases h
 ·rename_i i o hio
  split at hio
  ·injection hio with hio
   injection hio with h1 h2
   subst h1
   simp only [Bool.and_eq_true, decide_eq_true_eq] at h
   simpa using h.1.1
  ·cases hio
end Go.Bk.Liv
namespace Go.Proofs.YtgmapikcpnffhaaGreat
open Go.RowKit Go.Bk Go.Bk.Liv
set_option linter.unusedVariables false
set_option linter.unusedSimpArgs false

section
variable {S Req : Rel2} {P : Nat} {w1 w w' : World} {N gK gC : Nat} {bC : List Nat}
theorem CS.it (h : CS S Req P w1 N gK gC bC w) {bj rI : Nat} {m L : KV} (hI : IT w bj rI m L) (hb : bj < N) (hk : KeptBut bC w w') : IT w' bj rI m L := by
 obtain ⟨C, M, h1, _⟩ := h
 exact it_kept hI hk (fun hin => by have := h1.lb bj hin; omega) (h1.it_notin hI)
theorem CS.blk (h : CS S Req P w1 N gK gC bC w) {g : Nat} {t : TypeId} {cs : Array Value} (hB : Blk w g t cs) (hk : KeptBut bC w w') : Blk w' g t cs := by
 obtain ⟨C, M, h1, _⟩ := h
 exact blk_kept hB hk (h1.k_notin hB)
end
/-- live.Clash's sets, the first of them made -/
def CkK (w1 : World) (N gK gC P : Nat) (bC : List Nat) (w : World) : Prop :=
 Blk w gK 112 #[.slice (some ⟨gC, 0, none⟩) P P] ∧ Blk w gC 113 (setsV bC P) ∧ (∀ b ∈ bC, IM w b [] ∧ N ≤ b) ∧ bC.Nodup ∧ Below N w1 w ∧ N ≤ gK ∧ N ≤ gC ∧ N ≤ w1.heap.size
theorem CkK.push {w1 w : World} {N gK gC P k : Nat} {bC : List Nat} (h : CkK w1 N gK gC P bC w) (hk : bC.length = k) (hP : k < P) : CkK w1 N gK gC P (bC ++ [w.heap.size]) ((w.setCell ⟨gC, k, none⟩ (.map (some w.heap.size))).alloc (.map #[] 0)) := by
 subst hk
 rw [← World.setCell_alloc_past _ _ _ _ (show gC < w.heap.size from h.2.1.lt)]
 obtain ⟨h1, h2, h3, h4, h5, h6, h7, h8⟩ := h
 have l2 := h2.lt
 have hz := h5.size
 have hm : ∀ b, IM (w.alloc (.map #[] 0)) b [] → IM ((w.alloc (.map #[] 0)).setCell ⟨gC, bC.length, none⟩ (.map (some w.heap.size))) b [] := fun b hb => hb.setCell _ (fun e => hb.blk_ne (h2.alloc _) e)
 refine ⟨(h1.alloc _).setCell _ (blk_ne h1 h2 (by decide)), ?_, fun b hb => ?_, ?_, (h5.alloc (by omega) _).setCell (p := ⟨gC, bC.length, none⟩) h7 _, h6, h7, h8⟩
 ·have := blk_setSame (h2.alloc (.map #[] 0)) bC.length (.map (some w.heap.size))
  rwa [setsV_push hP] at this
 ·rcases List.mem_append.1 hb with hb | hb
  ·exact ⟨hm b ((h3 b hb).1.alloc _), (h3 b hb).2⟩
  ·simp at hb
   subst hb
   exact ⟨hm _ (IM.new w), by omega⟩
 ·rw [List.nodup_append]
  refine ⟨h4, by simp, fun x hx y hy e => ?_⟩
  simp at hy
  subst hy
  have := (h3 x hx).1.lt
  omega
theorem keys_set (t : List Int) : ∀ x ∈ (setKV t).map (·.1), x ∈ t := by
 have e : (setKV t).map (·.1) = t := by simp [setKV, Function.comp_def]
 rw [e]
 exact fun x h => h
theorem CkK.cs {w1 w : World} {N gK gC P : Nat} {bC : List Nat} (h : CkK w1 N gK gC P bC w) (hk : bC.length = P) (S Req : Rel2) (hR : ∀ a b, ¬ Req a b) : CS S Req P w1 N gK gC bC w := by
 obtain ⟨h1, h2, h3, h4, h5, h6, h7, h8⟩ := h
 refine ⟨List.replicate P [], fun _ _ => False, { k := by rw [List.length_replicate]; exact h1, c := by rw [← setsV_full hk]; exact h2, lc := by simp [hk], mc := fun i b s q1 q2 => ?_, nd := h4, lK := h6, lC := h7, lb := fun b hb => (h3 b hb).2, bel := h5, hz := h8 }, MetC.start P, by simp, fun a b hab => hab.elim, fun a b hab => hR a b hab⟩
 obtain ⟨_, e⟩ := List.getElem?_eq_some_iff.1 q2
 simp at e
 subst e
 exact (h3 b (List.mem_of_getElem? q1)).1

set_option maxRecDepth 100000 in
set_option maxHeartbeats 8000000 in
theorem Clash_any (e : EnvD) (r : RowD) (ve vr : Value) (w : World) (he : EnvV w ve e) (hr : RowV w vr r) : Calls Tryz.prog 28 #[ve, vr] w (AhPost e r r.places.toNat (fun i => Clashes r (i : Int)) w) := by
 have HE := Lib.hid he
 have HR := Lib.hid hr
 obtain ⟨va, vb, vd, rfl, h1, h2, h3⟩ := he
 obtain ⟨vp, vq, vr, vs, rfl, h4, h5, h6, h7⟩ := hr
 obtain ⟨Ap, cp, rfl⟩ := h4.shape
 obtain ⟨Aq, cq, rfl⟩ := h5.shape
 obtain ⟨Ar, cr, rfl⟩ := h6.shape
 obtain ⟨Ac, cc, rfl, _⟩ := h7.len
 obtain ⟨_, l7, l7'⟩ := h7.lenV
 obtain ⟨_, _, _, _, hpL⟩ := h6.len
 have H7 := Lib.hid h7
 have HPI := Lib.hid h6.ir
 clear h1 h2 h3 h4 h5 h6 h7
 have HB0 := Lib.hid (al2 w (.cells #[va, .int .i64 e.imports, vb, vd, .bool e.mem] 26) (.cells #[.slice Ap r.sig.inn.length cp, .slice Aq r.sig.out.length cq, .int .i64 r.places, .slice Ar r.params.length cr, .slice Ac r.code.length cc] 31))
 have KR0 := Lib.hid (Blk.newAt (w.alloc (.cells #[va, .int .i64 e.imports, vb, vd, .bool e.mem] 26)) (N := w.heap.size + 1) 31 #[.slice Ap r.sig.inn.length cp, .slice Aq r.sig.out.length cq, .int .i64 r.places, .slice Ar r.params.length cr, .slice Ac r.code.length cc] (by simp))
 go_enter Tryz.func28, Tryz.ntmps28
 go_wp2_with fail
 (with_reducible refine (look_any e r _ _ _ (HE.out.below HB0.out (Nat.le_refl _)) (HR.out.below HB0.out (Nat.le_refl _))).mono ?_)
 rintro en w1 (⟨hnc, rfl, hb⟩ | ⟨hc, gF, gA, gB, bA, bB, A, B, rfl, hL, hb⟩)
 ·have HB := Lib.hid (HB0.out.trans (hb.mono HB0.out.size))
  have HNC := Lib.hid hnc
  clear hnc hb
  go_wp2
  go_ret2
  exact .inl ⟨HNC.out, rfl, HB.out⟩
 ·have HB := Lib.hid (HB0.out.trans (hb.mono HB0.out.size))
  have KR1 := Lib.hid (KR0.out.below hb KR0.out.lt)
  have HC := Lib.hid hc
  have HL := Lib.hid hL
  obtain ⟨P, hP⟩ : ∃ P : Nat, r.places = P := ⟨r.places.toNat, by have := hc.p1; omega⟩
  have hP1 : P ≤ 4096 := by have := hc.p2; omega
  rw [hP] at KR1
  have HP := Lib.hid hP
  have hn1 : r.code.length ≤ 4096 := hc.n2
  have hpl : r.params.length ≤ 8 := by
   have h1 := hc.par
   have h2 := hc.sig
   unfold sigOk kindsOk at h2
   simp only [Bool.and_eq_true, decide_eq_true_eq] at h2
   omega
  have hzz := hb.size
  simp at hzz
  obtain ⟨r0, r1, r2, r3, r4⟩ := blk5 KR1.out
  have y1 := KR1.out.lt
  have mk := run_mk (P := Tryz.prog) 112 113 (.map none) 8 Tryz.underlying112 info_set rfl P (by omega) (by omega)
  clear hc hL hb hP r0 r1 r3 r4
  go_wp2_with fail
  clear mk r2 y1
  have hk0 : CkK w1 w1.heap.size (w1.heap.size + 1) w1.heap.size P [] ((w1.alloc (.cells (Array.replicate P (.map none)) 113)).alloc (.cells #[.slice (some ⟨w1.heap.size, 0, none⟩) P P] 112)) := by
   refine ⟨Blk.newAt _ _ _ (by simp), ?_, fun b hb => by simp at hb, by simp, ((Below.refl _ _).alloc (Nat.le_refl _) _).alloc (by simp) _, by omega, Nat.le_refl _, Nat.le_refl _⟩
   have e : setsV [] P = Array.replicate P (.map none) := by simp [setsV, mapsV]
   rw [e]
   exact (Blk.new _ _ _).alloc _
  have HK0 := Lib.hid hk0
  clear hk0
  go_loopw [37] (fun i wr => ∃ (k : Nat) (bC : List Nat), k ≤ P ∧ i = .int .i64 k ∧ Hid (bC.length = k) ∧ Hid (CkK w1 w1.heap.size (w1.heap.size + 1) w1.heap.size P bC wr)) (fun i _ => P - (intOf i).toNat)
  case atStart => exact ⟨0, [], by omega, rfl, Lib.hid rfl, HK0⟩
  case round =>
   clear HK0
   obtain ⟨k, bC, hk, rfl, HBL, IK⟩ := hrel
   obtain ⟨wa, rfl⟩ : ∃ wa : World, wa = wr := ⟨_, rfl⟩
   by_cases hlt : k < P
   ·have hlt' : decide ((k : Int) < P) = true := by simp; omega
    have hlt2 : (k : Int) < P := by omega
    have f0 := IK.out.1.cell 0
    simp at f0
    have y1 := IK.out.1.lt
    have f2 := IK.out.2.1.cell k
    have e2 : (setsV bC P)[k]? = some (.map none) := by
     unfold setsV
     rw [List.getElem?_toArray, List.getElem?_append_right (by rw [mapsV_len, HBL.out]; exact Nat.le_refl _), mapsV_len, HBL.out, Nat.sub_self, List.getElem?_replicate, if_pos (by omega)]
    rw [e2] at f2
    have f3 := frz IK.out.2.1 k
    have y2 := IK.out.2.1.lt
    have hmm : ∀ w, (Instr.makeMap 113 none).run Tryz.prog w = .ok (.map (some w.heap.size)) (w.alloc (.map #[] 0)) := fun w => by simp [Instr.makeMap]
    have HNX := Lib.hid (IK.out.push HBL.out hlt)
    have HBN := Lib.hid (show (bC ++ [wa.heap.size]).length = k + 1 by simp [HBL.out])
    clear e2 IK HBL
    go_wp2
    exact ⟨⟨k + 1, _, by omega, by simp, HBN, HNX⟩, by simp [intOf]; omega⟩
   ·have hlt' : decide ((k : Int) < P) = false := by simp; omega
    have hkn : P = k := by omega
    subst hkn
    obtain ⟨n, hn⟩ : ∃ n, r.code.length = n := ⟨_, rfl⟩
    have hbel := IK.out.2.2.2.2.1
    have hsz := hbel.size
    obtain ⟨r0, r1, r2, r3, r4⟩ := blk5 (KR1.out.below hbel KR1.out.lt)
    have y1 := (KR1.out.below hbel KR1.out.lt).lt
    rw [hn] at r4 hn1
    have HN := Lib.hid hn
    have HCS := Lib.hid (IK.out.cs HBL.out (Sall r) (ReqC r 0) (fun a b h => by obtain ⟨i, c, h, _⟩ := h; omega))
    clear IK HBL hbel hn r0 r1 r2 r3
    go_wp2_with fail
    clear r4 y1
    obtain ⟨wk, rfl⟩ : ∃ wk : World, wk = wa := ⟨_, rfl⟩
    go_loopw [49] (fun i wr => ∃ j : Nat, j ≤ n ∧ i = .int .i64 j ∧ Hid (CS (Sall r) (ReqC r j) P w1 w1.heap.size (w1.heap.size + 1) w1.heap.size bC wr)) (fun i _ => n - (intOf i).toNat)
    case atStart => exact ⟨0, by omega, rfl, HCS⟩
    case round => as_aux_lemma =>
     clear HCS
     obtain ⟨j, hj, rfl, IC⟩ := hrel
     obtain ⟨wo, rfl⟩ : ∃ wo : World, wo = wr := ⟨_, rfl⟩
     by_cases hjn : j < n
     ·have hjn' : decide ((j : Int) < n) = true := by simp; omega
      have hjn2 : (j : Int) < n := by omega
      obtain ⟨c, hck⟩ : ∃ c, r.code[j]? = some c := ⟨_, List.getElem?_eq_getElem (by rw [HN.out]; exact hjn)⟩
      have hbo := IC.out.bel
      have hba : Below w.heap.size w wo := HB.out.trans (hbo.1.mono HB.out.size)
      obtain ⟨gb, go, p, q, tt, rfl, hgb2, g0, g1, g2, g3, g4, s0, s1, s2, s3⟩ := H7.out.code hck
      replace g0 := (hba.cell (p := ⟨gb, _, none⟩) hgb2).trans g0
      replace g1 := (hba.cell (p := ⟨gb, _, none⟩) hgb2).trans g1
      replace g2 := (hba.cell (p := ⟨gb, _, none⟩) hgb2).trans g2
      replace g3 := (hba.cell (p := ⟨gb, _, none⟩) hgb2).trans g3
      replace g4 := (hba.cell (p := ⟨gb, _, none⟩) hgb2).trans g4
      obtain ⟨pA, pc, rfl⟩ := s1.shape
      obtain ⟨qA, qc, rfl⟩ := s2.shape
      obtain ⟨tA, tc, rfl⟩ := s3.shape
      obtain ⟨_, _, _, _, hoL⟩ := s2.len
      have hsz := hba.size
      have hbz := hbo.2
      have hgl : gb < wo.heap.size := by omega
      have HOI := Lib.hid s2.ir
      have HAI := Lib.hid s1.ir
      have HCK := Lib.hid hck
      have hco := HC.out.code c (List.mem_of_getElem? hck)
      have HCO := Lib.hid hco
      obtain ⟨_, hor, hon⟩ := codeOk_places hco
      have HOR := Lib.hid hor
      obtain ⟨m, hm⟩ : ∃ m, c.outs.length = m := ⟨_, rfl⟩
      have hm8 : m ≤ 1152921504606846976 := by omega
      have HM := Lib.hid hm
      have IC2 := Lib.hid (((IC.out.alloc (.cells #[.int .i64 c.op, .int .u64 (c.n : Int), .slice pA c.args.length pc, .slice qA c.outs.length qc, .slice tA c.to.length tc] 48))).weak (fun x y h => reqO_start (c := c) (k := j) x y h))
      have HKC := Lib.hid (Blk.newAt wo (N := wo.heap.size) 48 #[.int .i64 c.op, .int .u64 (c.n : Int), .slice pA c.args.length pc, .slice qA c.outs.length qc, .slice tA c.to.length tc] rfl)
      rw [hm] at g3 HKC IC2
      clear hck hbo hba s0 s1 s2 s3 hoL hco hor hon IC hm
      go_wp2_with fail
      clear g0 g1 g2 g3 g4
      go_loopw [57] (fun i wr => ∃ z : Nat, z ≤ m ∧ i = .int .i64 z ∧ Hid (CS (Sall r) (ReqO r j c z) P w1 w1.heap.size (w1.heap.size + 1) w1.heap.size bC wr) ∧ Hid (Blk wr wo.heap.size 48 #[.int .i64 c.op, .int .u64 (c.n : Int), .slice pA c.args.length pc, .slice qA m qc, .slice tA c.to.length tc])) (fun i _ => m - (intOf i).toNat)
      case atStart => exact ⟨0, by omega, rfl, IC2, HKC⟩
      case round => as_aux_lemma =>
       clear IC2 HKC
       obtain ⟨z, hz, rfl, iO, IK⟩ := hrel
       obtain ⟨wz, rfl⟩ : ∃ wz : World, wz = wr := ⟨_, rfl⟩
       by_cases hzm : z < m
       ·have hzm' : decide ((z : Int) < m) = true := by simp; omega
        have hzm2 : (z : Int) < m := by omega
        obtain ⟨x, hx⟩ : ∃ x, c.outs[z]? = some x := ⟨_, List.getElem?_eq_getElem (by rw [HM.out]; exact hzm)⟩
        have hxr := HOR.out x (List.mem_of_getElem? hx)
        obtain ⟨o, rfl⟩ : ∃ o : Nat, x = o := ⟨x.toNat, by omega⟩
        have hbo := iO.out.bel
        have hba : Below w.heap.size w wz := HB.out.trans (hbo.1.mono HB.out.size)
        have hzz2 := hbo.2
        have hoP : o < P := by have := HP.out; omega
        obtain ⟨ab, ao, rfl, hab, hcl⟩ := (HOI.out.below hba (Nat.le_refl _)).cell hx
        obtain ⟨bj, hbj⟩ : ∃ bj, bB[j]? = some bj := ⟨_, List.getElem?_eq_getElem (by rw [HL.out.lb, HL.out.s.lB, HN.out]; exact hjn)⟩
        obtain ⟨t, ht⟩ : ∃ t, B[j]? = some t := ⟨_, List.getElem?_eq_getElem (by rw [HL.out.s.lB, HN.out]; exact hjn)⟩
        have hL2 := HL.out.below hbo.1 (Nat.le_refl _)
        have f0 := hL2.f.cell 1
        have f2 := hL2.b.cell j
        simp at f0
        have e0 : (mapsV bB).toArray[j]? = some (.map (some bj)) := by simp [mapsV, hbj]
        rw [e0] at f2
        rw [HN.out] at f0
        have y2 := hL2.f.lt
        have y4 := hL2.b.lt
        have hmj := Lib.hid (hL2.mb j bj t hbj ht)
        have HT := Lib.hid (fun x => HL.out.eB j t x ht)
        have HBJ := Lib.hid (HL.out.mb j bj t hbj ht).lt
        have HX := Lib.hid hx
        have HXO := Lib.hid (List.mem_of_getElem? hx)
        clear hL2 e0 hbj ht hx hxr hbo hba
        go_wp2_with (at_range; refine wp_range _ rfl _ 113 rfl 3 4 Tryz.underlying113 bj (setKV t) rfl hmj.out ?_)
        rintro w4 hI hg hz4
        have HI := Lib.hid hI
        have IO4 := Lib.hid ((iO.out.grown hg (fun g e => by cases e)).weak (fun x y h => reqL_start (o := (o : Int)) (t := t) x y h))
        have IK4 := Lib.hid (IK.out.grown hg (by simp))
        clear hI hg hz4 hmj f0 f2 y2 y4 hcl iO IK
        go_wp2_with fail
        go_loopw [] (fun wr => ∃ L : KV, Hid (CS (Sall r) (ReqL r j c z (o : Int) t L) P w1 w1.heap.size (w1.heap.size + 1) w1.heap.size bC wr) ∧ Hid (Blk wr wo.heap.size 48 #[.int .i64 c.op, .int .u64 (c.n : Int), .slice pA c.args.length pc, .slice (some ⟨ab, ao, none⟩) m qc, .slice tA c.to.length tc]) ∧ Hid (IT wr bj wz.heap.size (setKV t) L) ∧ Hid (∀ x ∈ L.map (·.1), x ∈ t)) (fun wr => wr.rangeLeft bj wz.heap.size)
        case atStart => exact ⟨_, IO4, IK4, HI, Lib.hid (keys_set t)⟩
        case round => as_aux_lemma =>
         clear IO4 IK4 HI
         obtain ⟨L, iO, IK, II, IS⟩ := hrel
         obtain ⟨wi, rfl⟩ : ∃ wi : World, wi = wr := ⟨_, rfl⟩
         have HLE := Lib.hid II.out.left
         have hbz2 := iO.out.bel.2
         go_wp2_with (at_next; refine wp_next _ rfl _ rfl bj wz.heap.size (setKV t) L rfl II.out ?_ ?_)
         ·rintro rfl
          have IZ0 := Lib.hid (iO.out.weak (fun x y h => reqL_done HT.out x y h))
          have f3 := IK.out.cell 3
          simp at f3
          have y3 := IK.out.lt
          clear II IS iO HLE
          go_wp2_with fail
          clear f3 y3
          go_loopw [91] (fun i wr => ∃ y : Nat, y ≤ m ∧ i = .int .i64 y ∧ Hid (CS (Sall r) (ReqZ r j c z (o : Int) y) P w1 w1.heap.size (w1.heap.size + 1) w1.heap.size bC wr) ∧ Hid (Blk wr wo.heap.size 48 #[.int .i64 c.op, .int .u64 (c.n : Int), .slice pA c.args.length pc, .slice (some ⟨ab, ao, none⟩) m qc, .slice tA c.to.length tc])) (fun i _ => m - (intOf i).toNat)
          case atStart => exact ⟨0, by omega, rfl, IZ0, IK⟩
          case round => as_aux_lemma =>
           clear IZ0 IK
           obtain ⟨y, hy, rfl, IZ, IKz⟩ := hrel
           obtain ⟨wy, rfl⟩ : ∃ wy : World, wy = wr := ⟨_, rfl⟩
           by_cases hym : y < m
           ·have hym' : decide ((y : Int) < m) = true := by simp; omega
            have hym2 : (y : Int) < m := by omega
            obtain ⟨x, hx⟩ : ∃ x, c.outs[y]? = some x := ⟨_, List.getElem?_eq_getElem (by rw [HM.out]; exact hym)⟩
            have hxr := HOR.out x (List.mem_of_getElem? hx)
            obtain ⟨o2, rfl⟩ : ∃ o : Nat, x = o := ⟨x.toNat, by omega⟩
            have hbo := IZ.out.bel
            have hba : Below w.heap.size w wy := HB.out.trans (hbo.1.mono HB.out.size)
            have ho2P : o2 < P := by have := HP.out; omega
            obtain ⟨ab, ao, hae, hab, hcl⟩ := (HOI.out.below hba (Nat.le_refl _)).cell hx
            injection hae with hae
            injection hae with e1 e2
            subst e1
            subst e2
            have HX2 := Lib.hid hx
            have HS := Lib.hid (show Sall r (o : Int) (o2 : Int) from .inl ⟨j, c, HCK.out, HXO.out, .inr (List.mem_of_getElem? hx)⟩)
            clear hx hxr hbo hba
            go_wp2_with fail
            (with_reducible refine (meet_cs (Sall r) (ReqZ r j c z (o : Int) y) P w1 w1.heap.size (w1.heap.size + 1) w1.heap.size bC o o2 _ IZ.out hoP ho2P (HS.out) (by omega)).mono ?_)
            rintro en w6 ⟨rfl, h1, h2⟩
            have IZ1 := Lib.hid (h1.weak (fun a b h => reqZ_put HX2.out a b h))
            have IK1 := Lib.hid (IZ.out.blk IKz.out h2)
            clear h1 h2 hcl IZ IKz
            go_wp2
            exact ⟨⟨y + 1, by omega, by simp, IZ1, IK1⟩, by simp [intOf]; omega⟩
           ·have hym' : decide ((y : Int) < m) = false := by simp; omega
            have IZ1 := Lib.hid (IZ.out.weak (fun a b h => reqZ_done HX.out (by rw [HM.out]; omega) a b h))
            clear IZ
            go_wp2
            exact ⟨⟨z + 1, by omega, by simp, IZ1, IKz⟩, by simp [intOf]; omega⟩
         ·rintro L1 x v0 L2 w5 rfl hI2 hg2 hz2 hen
          have hpl2 := (HT.out x).1 (IS.out x (by simp))
          have hxr := hpl2.range HC.out
          obtain ⟨p, rfl⟩ : ∃ p : Nat, x = p := ⟨x.toNat, by omega⟩
          have hpP : p < P := by have := HP.out; omega
          have II2 := Lib.hid hI2
          have IO2 := Lib.hid (iO.out.grown hg2 (fun g e => by injection e with e; subst e; exact ⟨hzz2, _, _, _, II.out⟩))
          have ik2 := IK.out.grown hg2 (fun e => by injection e with e; exact it_blk_ne II.out IK.out e)
          have IK2 := Lib.hid ik2
          have IS2 := Lib.hid (fun y hy => IS.out y (kv_in hy))
          have f3 := ik2.cell 0
          have f4 := ik2.cell 2
          simp at f3 f4
          have y3 := ik2.lt
          have hbo := IO2.out.bel
          have hba : Below w.heap.size w w5 := HB.out.trans (hbo.1.mono HB.out.size)
          have HLB := Lib.hid hpl2
          clear hpl2 hxr ik2 hg2 hz2 hI2 II iO IK IS
          by_cases hop : c.op = 272
          ·have ho' : (c.op != 272) = false := by simp [hop]
           have hal := move_args HCO.out hop
           have hal2 : 0 < c.args.length := by omega
           obtain ⟨a0, ha0⟩ : ∃ a0, c.args[0]? = some a0 := ⟨_, List.getElem?_eq_getElem hal2⟩
           obtain ⟨pb, po, rfl, hpb, hpc⟩ := (HAI.out.below hba (Nat.le_refl _)).cell ha0
           have HA0 := Lib.hid ha0
           have HOP := Lib.hid hop
           have hpc0 : w5.cell? ⟨pb, po, none⟩ = some (.int .i64 a0) := by simpa using hpc
           clear hal ha0 hop hbo hba hpc
           by_cases hpa : (p : Int) = a0
           ·have hpa' : ((p : Int) != a0) = false := by simp [hpa]
            have IO3 := Lib.hid (IO2.out.weak (fun a b h => reqL_skip (v := v0) (fun hh => hh HOP.out a0 HA0.out hpa) a b h))
            have HL3 := Lib.hid II2.out.left
            clear hpa IO2
            go_wp2
            refine ⟨⟨L1 ++ L2, IO3, IK2, II2, IS2⟩, ?_⟩
            rw [HL3.out, HLE.out]; simp
           ·have hpa' : ((p : Int) != a0) = true := by simp [hpa]
            have HS := Lib.hid (show Sall r (o : Int) (p : Int) from .inl ⟨j, c, HCK.out, HXO.out, .inl ⟨HLB.out, fun _ a ha => by
             have h0 := HA0.out
             rw [h0] at ha
             injection ha with ha
             rw [← ha]
             exact hpa⟩⟩)
            clear hpa
            go_wp2_with fail
            (with_reducible refine (meet_cs (Sall r) (ReqL r j c z (o : Int) t (L1 ++ ((p : Int), v0) :: L2)) P w1 w1.heap.size (w1.heap.size + 1) w1.heap.size bC o p _ IO2.out hoP hpP (HS.out) (by omega)).mono ?_)
            rintro en w6 ⟨rfl, h1, h2⟩
            have IO3 := Lib.hid (h1.weak (fun a b h => reqL_put a b h))
            have IK3 := Lib.hid (IO2.out.blk IK2.out h2)
            have II3 := Lib.hid (IO2.out.it II2.out HBJ.out h2)
            have HL3 := Lib.hid II3.out.left
            clear h1 h2 IO2 IK2 II2
            go_wp2
            refine ⟨⟨L1 ++ L2, IO3, IK3, II3, IS2⟩, ?_⟩
            rw [HL3.out, HLE.out]; simp
          ·have ho' : (c.op != 272) = true := by simp [hop]
           have HS := Lib.hid (show Sall r (o : Int) (p : Int) from .inl ⟨j, c, HCK.out, HXO.out, .inl ⟨HLB.out, fun e => absurd e hop⟩⟩)
           clear hop hbo hba
           go_wp2_with fail
           (with_reducible refine (meet_cs (Sall r) (ReqL r j c z (o : Int) t (L1 ++ ((p : Int), v0) :: L2)) P w1 w1.heap.size (w1.heap.size + 1) w1.heap.size bC o p _ IO2.out hoP hpP (HS.out) (by omega)).mono ?_)
           rintro en w6 ⟨rfl, h1, h2⟩
           have IO3 := Lib.hid (h1.weak (fun a b h => reqL_put a b h))
           have IK3 := Lib.hid (IO2.out.blk IK2.out h2)
           have II3 := Lib.hid (IO2.out.it II2.out HBJ.out h2)
           have HL3 := Lib.hid II3.out.left
           clear h1 h2 IO2 IK2 II2
           go_wp2
           refine ⟨⟨L1 ++ L2, IO3, IK3, II3, IS2⟩, ?_⟩
           rw [HL3.out, HLE.out]; simp
       ·have hzm' : decide ((z : Int) < m) = false := by simp; omega
        have IO1 := Lib.hid (iO.out.weak (fun a b h => reqC_next HCK.out (by rw [HM.out]; omega) a b h))
        clear iO IK
        go_wp2
        exact ⟨⟨j + 1, by omega, by simp, IO1⟩, by simp [intOf]; omega⟩
     ·have hjn' : decide ((j : Int) < n) = false := by simp; omega
      have h0 := IC.out
      rw [show j = r.code.length by rw [HN.out]; omega] at h0
      obtain ⟨m, hm⟩ : ∃ m, r.params.length = m := ⟨_, rfl⟩
      have IP0 := Lib.hid (h0.weak (fun x y h => reqP_start x y h))
      have hbo := h0.bel
      obtain ⟨r0, r1, r2, r3, r4⟩ := blk5 (KR1.out.below hbo.1 KR1.out.lt)
      have y1 := (KR1.out.below hbo.1 KR1.out.lt).lt
      rw [hm] at r3 hpl
      have HM := Lib.hid hm
      clear h0 hbo IC hm r0 r1 r2 r4
      go_wp2_with fail
      clear r3 y1
      go_loopw [105] (fun i wr => ∃ q : Nat, q ≤ m ∧ i = .int .i64 q ∧ Hid (CS (Sall r) (ReqP r q) P w1 w1.heap.size (w1.heap.size + 1) w1.heap.size bC wr)) (fun i _ => m - (intOf i).toNat)
      case atStart => exact ⟨0, by omega, rfl, IP0⟩
      case round => as_aux_lemma =>
       clear IP0
       obtain ⟨q, hq, rfl, IP⟩ := hrel
       obtain ⟨wq, rfl⟩ : ∃ wq : World, wq = wr := ⟨_, rfl⟩
       by_cases hqm : q < m
       ·have hqm' : decide ((q : Int) < m) = true := by simp; omega
        have hqm2 : (q : Int) < m := by omega
        obtain ⟨x, hx⟩ : ∃ x, r.params[q]? = some x := ⟨_, List.getElem?_eq_getElem (by rw [HM.out]; exact hqm)⟩
        have HPR := Lib.hid (fun x (hx : x ∈ r.params) => within_mem HC.out.pin hx)
        have hxr := HPR.out x (List.mem_of_getElem? hx)
        obtain ⟨a, rfl⟩ : ∃ a : Nat, x = a := ⟨x.toNat, by omega⟩
        have haP : a < P := by have := HP.out; omega
        have hbo := IP.out.bel
        have hba : Below w.heap.size w wq := HB.out.trans (hbo.1.mono HB.out.size)
        obtain ⟨ab, ao, rfl, hab, hcl⟩ := (HPI.out.below hba (Nat.le_refl _)).cell hx
        obtain ⟨r0, r1, r2, r3, r4⟩ := blk5 (KR1.out.below hbo.1 KR1.out.lt)
        have y1 := (KR1.out.below hbo.1 KR1.out.lt).lt
        rw [HM.out] at r3
        have HX := Lib.hid hx
        have IQ0 := Lib.hid (IP.out.weak (fun x y h => reqQ_start (a := (a : Int)) x y h))
        clear hx hxr hbo hba r0 r1 r2 r4 IP
        go_wp2_with fail
        clear r3 y1 hcl
        go_loopw [112] (fun i wr => ∃ z : Nat, z ≤ m ∧ i = .int .i64 z ∧ Hid (CS (Sall r) (ReqQ r q (a : Int) z) P w1 w1.heap.size (w1.heap.size + 1) w1.heap.size bC wr)) (fun i _ => m - (intOf i).toNat)
        case atStart => exact ⟨0, by omega, rfl, IQ0⟩
        case round => as_aux_lemma =>
         clear IQ0
         obtain ⟨z, hz, rfl, IQ⟩ := hrel
         obtain ⟨wz, rfl⟩ : ∃ wz : World, wz = wr := ⟨_, rfl⟩
         have hbo := IQ.out.bel
         have hzz2 := hbo.2
         by_cases hzm : z < m
         ·have hzm' : decide ((z : Int) < m) = true := by simp; omega
          have hzm2 : (z : Int) < m := by omega
          obtain ⟨x, hx⟩ : ∃ x, r.params[z]? = some x := ⟨_, List.getElem?_eq_getElem (by rw [HM.out]; exact hzm)⟩
          have hxr := HPR.out x (List.mem_of_getElem? hx)
          obtain ⟨b, rfl⟩ : ∃ a : Nat, x = a := ⟨x.toNat, by omega⟩
          have hbP : b < P := by have := HP.out; omega
          have hba : Below w.heap.size w wz := HB.out.trans (hbo.1.mono HB.out.size)
          obtain ⟨ab, ao, hae, hab, hcl⟩ := (HPI.out.below hba (Nat.le_refl _)).cell hx
          injection hae with hae
          injection hae with e1 e2
          subst e1
          subst e2
          have HX2 := Lib.hid hx
          have HS := Lib.hid (show Sall r (a : Int) (b : Int) from .inr ⟨List.mem_of_getElem? HX.out, .inl (List.mem_of_getElem? hx)⟩)
          clear hx hxr hbo hba
          go_wp2_with fail
          (with_reducible refine (meet_cs (Sall r) (ReqQ r q (a : Int) z) P w1 w1.heap.size (w1.heap.size + 1) w1.heap.size bC a b _ IQ.out haP hbP (HS.out) (by omega)).mono ?_)
          rintro en w6 ⟨rfl, h1, h2⟩
          have IQ1 := Lib.hid (h1.weak (fun a b h => reqQ_put HX2.out a b h))
          clear h1 h2 hcl IQ
          go_wp2
          exact ⟨⟨z + 1, by omega, by simp, IQ1⟩, by simp [intOf]; omega⟩
         ·have hzm' : decide ((z : Int) < m) = false := by simp; omega
          have hn0 : 0 < r.code.length := HC.out.n1
          obtain ⟨bk, hbk⟩ : ∃ bk, bA[0]? = some bk := ⟨_, List.getElem?_eq_getElem (by rw [HL.out.la, HL.out.s.lA]; exact hn0)⟩
          obtain ⟨u, hu⟩ : ∃ u, A[0]? = some u := ⟨_, List.getElem?_eq_getElem (by rw [HL.out.s.lA]; exact hn0)⟩
          have hL2 := HL.out.below hbo.1 (Nat.le_refl _)
          have f0 := hL2.f.cell 0
          have f2 := hL2.a.cell 0
          simp at f0
          have e0 : (mapsV bA).toArray[0]? = some (.map (some bk)) := by simp [mapsV, hbk]
          rw [e0] at f2
          rw [HN.out] at f0 hn0
          have y2 := hL2.f.lt
          have y4 := hL2.a.lt
          have hmk := Lib.hid (hL2.ma 0 bk u hbk hu)
          have HU := Lib.hid (fun x => HL.out.eA 0 u x hu)
          have HBK := Lib.hid (HL.out.ma 0 bk u hbk hu).lt
          clear hL2 e0 hbk hu hbo
          go_wp2_with (at_range; refine wp_range _ rfl _ 113 rfl 3 4 Tryz.underlying113 bk (setKV u) rfl hmk.out ?_)
          rintro w4 hI hg hz4
          have HI := Lib.hid hI
          have IR4 := Lib.hid ((IQ.out.grown hg (fun g e => by cases e)).weak (fun x y h => reqR_start (u := u) (by rw [HM.out]; omega) x y h))
          clear hI hg hz4 hmk f0 f2 y2 y4 IQ
          go_wp2_with fail
          go_loopw [] (fun wr => ∃ L : KV, Hid (CS (Sall r) (ReqR r q (a : Int) u L) P w1 w1.heap.size (w1.heap.size + 1) w1.heap.size bC wr) ∧ Hid (IT wr bk wz.heap.size (setKV u) L) ∧ Hid (∀ x ∈ L.map (·.1), x ∈ u)) (fun wr => wr.rangeLeft bk wz.heap.size)
          case atStart => exact ⟨_, IR4, HI, Lib.hid (keys_set u)⟩
          case round => as_aux_lemma =>
           clear IR4 HI
           obtain ⟨L, iO, II, IS⟩ := hrel
           obtain ⟨wi, rfl⟩ : ∃ wi : World, wi = wr := ⟨_, rfl⟩
           have HLE := Lib.hid II.out.left
           have hbz2 := iO.out.bel.2
           go_wp2_with (at_next; refine wp_next _ rfl _ rfl bk wz.heap.size (setKV u) L rfl II.out ?_ ?_)
           ·rintro rfl
            have IP1 := Lib.hid (iO.out.weak (fun x y h => reqR_done HX.out HU.out x y h))
            clear II IS iO HLE
            go_wp2
            exact ⟨⟨q + 1, by omega, by simp, IP1⟩, by simp [intOf]; omega⟩
           ·rintro L1 x v0 L2 w5 rfl hI2 hg2 hz2 hen
            have hpl2 := (HU.out x).1 (IS.out x (by simp))
            have hxr := hpl2.range HC.out
            obtain ⟨p, rfl⟩ : ∃ p : Nat, x = p := ⟨x.toNat, by omega⟩
            have hpP : p < P := by have := HP.out; omega
            have II2 := Lib.hid hI2
            have IO2 := Lib.hid (iO.out.grown hg2 (fun g e => by injection e with e; subst e; exact ⟨hzz2, _, _, _, II.out⟩))
            have IS2 := Lib.hid (fun y hy => IS.out y (kv_in hy))
            have HS := Lib.hid (show Sall r (a : Int) (p : Int) from .inr ⟨List.mem_of_getElem? HX.out, .inr hpl2⟩)
            clear hpl2 hxr hg2 hz2 hI2 II iO IS
            go_wp2_with fail
            (with_reducible refine (meet_cs (Sall r) (ReqR r q (a : Int) u (L1 ++ ((p : Int), v0) :: L2)) P w1 w1.heap.size (w1.heap.size + 1) w1.heap.size bC a p _ IO2.out haP hpP (HS.out) (by omega)).mono ?_)
            rintro en w6 ⟨rfl, h1, h2⟩
            have IO3 := Lib.hid (h1.weak (fun a b h => reqR_put a b h))
            have II3 := Lib.hid (IO2.out.it II2.out HBK.out h2)
            have HL3 := Lib.hid II3.out.left
            clear h1 h2 IO2 II2
            go_wp2
            refine ⟨⟨L1 ++ L2, IO3, II3, IS2⟩, ?_⟩
            rw [HL3.out, HLE.out]; simp
       ·have hqm' : decide ((q : Int) < m) = false := by simp; omega
        obtain ⟨C, M, h1, h2, h3, h4, h5⟩ := IP.out
        have f0 := h1.k.cell 0
        simp at f0
        have y1 := h1.k.lt
        have hls := lists_any w1.heap.size bC C wq h1.c h1.lc h1.mc (fun s hs => ⟨h2.nd s hs, by have := h2.small s hs; omega⟩) (by omega)
        have HE0 := Lib.hid (show ∀ (i : Nat) s x, C[i]? = some s → (x ∈ s ↔ Clashes r (i : Int) x) from fun i s x hs => by
         have hM : ∀ a b, M a b ↔ Sall r a b := fun a b => ⟨h4 a b, fun h => h5 a b (reqP_all (by rw [HM.out]; omega) a b h)⟩
         rw [h2.eq i s hs x, hM, hM]
         exact Iff.rfl)
        have hbq := HB.out.trans (h1.bel.mono HB.out.size)
        rw [h3] at f0 hls
        have HLS := Lib.hid hls
        have HBQ := Lib.hid hbq
        have H3 := Lib.hid h3
        clear h1 h2 h3 h4 h5 hls hbq IP
        go_wp2_with fail
        (with_reducible refine HLS.out.mono ?_)
        rintro en w8 hp
        obtain ⟨v, rfl, hT, hb2⟩ := told_of hp HE0.out
        rw [H3.out] at hT
        have HT := Lib.hid (hT.mono HBQ.out.size)
        have HB2 := Lib.hid (HBQ.out.trans (hb2.mono HBQ.out.size))
        clear hp hT hb2 HLS f0 y1
        go_wp2
        go_ret2
        have e : r.places.toNat = P := by have := HP.out; omega
        rw [e]
        exact .inr ⟨HC.out, v, rfl, HT.out, HB2.out⟩
end Go.Proofs.YtgmapikcpnffhaaGreat
