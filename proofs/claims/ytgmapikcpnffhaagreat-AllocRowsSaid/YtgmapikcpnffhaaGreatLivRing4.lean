/-
 lower.rings: whether instructions go round without a tick.
 Conditions: what comes behind an instruction is one.
-/
import Derived.Test.YtgmapikcpnffhaaGreatLRing
import Derived.Deep.LoopGhost
namespace Go.Bk.Liv
open Go Go.Bk
/-- what comes behind an instruction is one -/
structure FlowOk (r : RowD) : Prop where
 n1 : 1 ≤ r.code.length
 n2 : r.code.length ≤ 4096
 to : ∀ (i : Nat) c, r.code[i]? = some c → (∀ x ∈ nextOf c i, 0 ≤ x ∧ x < r.code.length) ∧ (c.op = 274 → 0 < c.to.length) ∧ (nextOf c i).length ≤ 66
theorem FlowOk.edges {r : RowD} (h : FlowOk r) {i : Nat} {x : Int} (hx : x ∈ edges r i) : ∃ k : Nat, x = k ∧ k < r.code.length := by
 unfold Liv.edges at hx
 split at hx
 ·rename_i c hc
  split at hx
  ·simp at hx
  ·have := (h.to i c hc).1 x hx
   exact ⟨x.toNat, by omega, by omega⟩
 ·simp at hx
theorem edges_len {r : RowD} (h : FlowOk r) (i : Nat) : (edges r i).length ≤ 66 := by
 unfold Liv.edges
 split
 ·rename_i c hc
  split
  ·simp
  ·exact (h.to i c hc).2.2
 ·simp
/-- what is left of an open one comes behind it -/
theorem RInv.rest {r : RowD} {st : List Int} {stk : Stk} {D : List Nat} (h : RInv r st stk D) {e : Nat × List Int} (he : e ∈ stk) {x : Int} (hx : x ∈ e.2) : x ∈ edges r e.1 := by
 obtain ⟨j, hj⟩ := List.mem_iff_getElem?.1 he
 obtain ⟨proc, h1, _⟩ := h.ent j e hj
 rw [h1]
 simp [hx]
end Go.Bk.Liv
namespace Go.Proofs.YtgmapikcpnffhaaGreat
open Go.RowKit Go.Bk Go.Bk.Liv
set_option linter.unusedVariables false
set_option linter.unusedSimpArgs false

def RgPost (r : RowD) (w : World) (en : Ending) (w' : World) : Prop := ∃ b : Bool, en = .returned (.bool b) ∧ (b = true ↔ ¬ Ranked r) ∧ Below w.heap.size w w'
/-- the search, all below the instruction k being done -/
def RgRel (r : RowD) (base bR bS bK gS : Nat) (rv : Array Value) (w0 : World) (k : Nat) (stk : Stk) (st : List Int) (D : List Nat) (v : Value) (vs : List Value) (wr : World) : Prop :=
 RM wr base bR bS bK gS rv st stk v vs ∧ RInv r st stk D ∧ (∀ j, j < k → j ∈ D) ∧ Below base w0 wr

set_option maxRecDepth 100000 in
set_option maxHeartbeats 8000000 in
theorem rings_any (r : RowD) (vr : Value) (w : World) (hr : RowV w vr r) (hf : FlowOk r) : Calls Tryz.prog 67 #[vr] w (RgPost r w) := by
 have HR := Lib.hid hr
 have HF := Lib.hid hf
 have hn2 := hf.n2
 obtain ⟨vp, vq, vr, vs, rfl, h4, h5, h6, h7⟩ := hr
 obtain ⟨Ap, cp, rfl⟩ := h4.shape
 obtain ⟨Aq, cq, rfl⟩ := h5.shape
 obtain ⟨Ar, cr, rfl⟩ := h6.shape
 obtain ⟨Ac, cc, rfl, _⟩ := h7.len
 obtain ⟨n, hn⟩ : ∃ n, r.code.length = n := ⟨_, rfl⟩
 rw [hn] at HR hn2 ⊢
 have HN := Lib.hid hn
 have hmk := run_mk (P := Tryz.prog) 23 3 (.int .i64 0) 8 Tryz.underlying23 info_int rfl n (by omega) (by omega)
 clear h4 h5 h6 h7 hf hn
 go_enter Tryz.func67, Tryz.ntmps67
 go_wp2
 clear hmk
 obtain ⟨rv, hrv⟩ : ∃ rv : Array Value, rv = #[.slice Ap r.sig.inn.length cp, .slice Aq r.sig.out.length cq, .int .i64 r.places, .slice Ar r.params.length cr, .slice Ac n cc] := ⟨_, rfl⟩
 have HRV := Lib.hid hrv
 have hb0 : Below w.heap.size w ((((w.alloc (.cells rv 31)).alloc (.cells (Array.replicate n (.int .i64 0)) 3)).alloc (.cells #[.slice (some ⟨w.heap.size + 1, 0, none⟩) n n] 23)).alloc (.cells #[.slice none 0 0] 43)) := al4 _ _ _ _ _
 have hm0 : RgRel r w.heap.size w.heap.size (w.heap.size + 1 + 1) (w.heap.size + 1 + 1 + 1) (w.heap.size + 1) rv w 0 [] (List.replicate n 0) [] (.slice none 0 0) [] ((((w.alloc (.cells rv 31)).alloc (.cells (Array.replicate n (.int .i64 0)) 3)).alloc (.cells #[.slice (some ⟨w.heap.size + 1, 0, none⟩) n n] 23)).alloc (.cells #[.slice none 0 0] 43)) := by
  refine ⟨{ r := ?_, s := ?_, t := ?_, k := ?_, own := World.ownsRow_nil _ _ _ _, ent := ?_, lR := by omega, lS := by omega, lT := by omega, lK := by omega, o1 := by simp [Value.ownBlock] }, ?_, (fun j hj => by omega), hb0⟩
  ·exact (((Blk.new w _ _).alloc _).alloc _).alloc _
  ·rw [List.length_replicate]; exact (at3 _ _ _ _ _).alloc _
  ·have e : (i64s (List.replicate n 0)).toArray = Array.replicate n (.int .i64 0) := by simp [i64s]
   rw [e]
   exact ((Blk.newAt _ _ _ (by simp)).alloc _).alloc _
  ·exact at4 _ _ _ _ _ _
  ·intro j u e h; simp at h
  ·have := RInv.start (r := r)
   rwa [HN.out] at this
 have HM0 := Lib.hid hm0
 clear hm0 hb0
 rw [← hrv] at HR ⊢
 clear hrv
 go_loopw [18] (fun i wr => ∃ (k : Nat) (st : List Int) (D : List Nat) (v : Value) (vs : List Value), k ≤ n ∧ i = .int .i64 k ∧ Hid (RgRel r w.heap.size w.heap.size (w.heap.size + 1 + 1) (w.heap.size + 1 + 1 + 1) (w.heap.size + 1) rv w k [] st D v vs wr)) (fun i _ => n - (intOf i).toNat)
 case atStart => exact ⟨0, _, _, _, _, by omega, rfl, HM0⟩
 case round =>
  clear HM0
  obtain ⟨wo, rfl⟩ : ∃ wo : World, wo = wr := ⟨_, rfl⟩
  obtain ⟨k, st, D, v, vs, hk, rfl, IM⟩ := hrel
  by_cases hlt : k < n
  ·have hlt' : decide ((k : Int) < n) = true := by simp; omega
   have hlt2 : (k : Int) < n := by omega
   obtain ⟨c, hc⟩ : ∃ c, r.code[k]? = some c := ⟨_, List.getElem?_eq_getElem (by rw [HN.out]; exact hlt)⟩
   have HC := Lib.hid hc
   clear hc
   go_wp2_with fail
   refine (visit_any r _ _ _ _ _ rv st [] v vs k c w _ IM.out.1 HR.out (Nat.le_refl _) IM.out.2.2.2 HC.out IM.out.2.1.len (HF.out.to k c HC.out).2.1 (HF.out.to k c HC.out).2.2 (by simp) (by rw [HN.out]; omega)).mono ?_
   rintro en w1 (⟨h0, v', vs', rfl, hm, hb⟩ | ⟨x, hx, hx0, rfl, rfl⟩)
   ·have HI := Lib.hid (show RgRel r w.heap.size w.heap.size (w.heap.size + 1 + 1) (w.heap.size + 1 + 1 + 1) (w.heap.size + 1) rv w k [(k, edges r k)] (st.set k 1) D v' vs' w1 from ⟨by simpa using hm, by simpa using IM.out.2.1.open h0 (fun e he => by simp at he), IM.out.2.2.1, IM.out.2.2.2.trans hb⟩)
    have HK := Lib.hid (show (st.set k 1)[k]? ≠ some 0 by rw [List.getElem?_set_self (by rw [IM.out.2.1.len, HN.out]; exact hlt)]; simp)
    obtain ⟨st1, hst1⟩ : ∃ st1, st.set k 1 = st1 := ⟨_, rfl⟩
    obtain ⟨stk1, hstk1⟩ : ∃ stk1 : Stk, [(k, edges r k)] = stk1 := ⟨_, rfl⟩
    rw [hst1, hstk1] at HI
    rw [hst1] at HK
    clear hm hb h0 hst1 hstk1 IM
    go_wp2
    go_loopg [] (muS st1 stk1) (fun g wi => ∃ (stk : Stk) (st : List Int) (D : List Nat) (v : Value) (vs : List Value), Hid (RgRel r w.heap.size w.heap.size (w.heap.size + 1 + 1) (w.heap.size + 1 + 1 + 1) (w.heap.size + 1) rv w k stk st D v vs wi) ∧ Hid (st[k]? ≠ some 0) ∧ Hid (muS st stk = g))
    case atStart => exact ⟨_, _, _, _, _, HI, HK, Lib.hid rfl⟩
    case round =>
     clear HI HK
     obtain ⟨stk, st, D, v, vs, IM2, IK, IG⟩ := hrel
     have hsn := IM2.out.2.1.len
     rw [HN.out] at hsn
     have HSN := Lib.hid hsn
     clear hsn
     rcases List.eq_nil_or_concat stk with rfl | ⟨S, e, rfl⟩
     ·obtain ⟨Av, cv, hv, _⟩ := own_shape IM2.out.1.own
      subst hv
      have cK := IM2.out.1.k.cell 0
      simp at cK
      have sK := IM2.out.1.k.lt
      go_wp2
      refine ⟨⟨k + 1, st, D, _, vs, by omega, by simp, Lib.hid ⟨IM2.out.1, IM2.out.2.1, fun j hj => ?_, IM2.out.2.2.2⟩⟩, by simp [intOf]; omega⟩
      by_cases hjk : j = k
      ·subst hjk
       obtain ⟨x, hx⟩ : ∃ x, st[j]? = some x := ⟨_, List.getElem?_eq_getElem (by rw [HSN.out]; exact hlt)⟩
       rcases IM2.out.2.1.vals j x hx with h | h | h
       ·subst h; exact absurd hx IK.out
       ·subst h; have := (IM2.out.2.1.one j).1 hx; simp at this
       ·subst h; exact (IM2.out.2.1.two j).1 hx
      ·exact IM2.out.2.2.1 j (by omega)
     ·rw [List.concat_eq_append] at *
      obtain ⟨t, rest⟩ := e
      obtain ⟨gk, cv, g, c, rfl, f1, f2, f3, f4, f5, f6, f7, f8, f9, f10, f11, f12, f13, f14, f15, f16, f17, f18⟩ := IM2.out.1.top
      have cK := IM2.out.1.k.cell 0
      have cS := IM2.out.1.s.cell 0
      simp at cK cS
      rw [HSN.out] at cS
      have sK := IM2.out.1.k.lt
      have sS := IM2.out.1.s.lt
      have sT := IM2.out.1.t.lt
      have zK := frz IM2.out.1.k 0
      have htn : t < n := by have := IM2.out.2.1.lt (e := (t, rest)) (by simp); rw [HN.out] at this; exact this
      have htn2 : (t : Int) < (n : Int) := by omega
      have htt : st[t]? = some 1 := (IM2.out.2.1.one t).2 (by simp)
      have cT := st_cell IM2.out.1.t htt
      have zT := frz IM2.out.1.t t
      obtain ⟨m, hm⟩ : ∃ m, S.length = m := ⟨_, rfl⟩
      have F9 := Lib.hid f9
      rw [hm] at f1 f9 f10 cK
      have hmb : m + 1 ≤ 4096 := by have := IM2.out.2.1.small; rw [HN.out] at this; simp at this; omega
      have HM := Lib.hid hm
      have HTT := Lib.hid htt
      have H12 := Lib.hid f12
      have q1 : gk ≠ w.heap.size + 1 := f6
      have hmc : m < cv := by omega
      have hmc2 : (m : Int) < (cv : Int) := by omega
      have hmc3 : (m : Int) + 1 ≤ (cv : Int) := by omega
      clear hm htt f12 f13
      rcases List.eq_nil_or_concat rest with rfl | ⟨rest', x, rfl⟩
      ·have c2 := H12.out.at_ (k := 0) (by simp)
       simp [i64s, ints'] at c2
       simp at f9 f11
       go_wp2_with fail
       go_region
       have P1 := Lib.hid (IM2.out.1.put t 2)
       go_wp2
       go_roundg (muS (st.set t 2) S)
       case measure => rw [← IG.out]; exact mu_pop HTT.out
       case rel =>
        have hpp := P1.out.pop
        rw [HM.out] at hpp
        refine ⟨S, st.set t 2, D ++ [t], _, _, Lib.hid ⟨hpp.drew, IM2.out.2.1.pop, fun j hj => List.mem_append_left _ (IM2.out.2.2.1 j hj), (((IM2.out.2.2.2).setCell (p := ⟨w.heap.size + 1, t, none⟩) IM2.out.1.lT _).setCell (p := ⟨w.heap.size + 1 + 1 + 1, 0, none⟩) IM2.out.1.lK _).drew⟩, Lib.hid ?_, Lib.hid rfl⟩
        by_cases e : t = k
        ·subst e
         rw [List.getElem?_set_self (by rw [HSN.out]; exact htn)]
         simp
        ·rw [List.getElem?_set_ne e]; exact IK.out
      ·rw [List.concat_eq_append] at *
       have c2 := H12.out.at_ (k := rest'.length + 1) (by simp)
       have e2 : (i64s (ints' (t, rest' ++ [x])))[rest'.length + 1]? = some (.int .i64 x) := by simp [i64s, ints']
       rw [List.getElem?_eq_getElem (by simp [i64s, ints'])] at e2
       injection e2 with e2
       rw [e2, Nat.zero_add] at c2
       simp only [List.length_append, List.length_cons, List.length_nil] at f9 f11
       obtain ⟨l, hl⟩ : ∃ l, rest'.length = l := ⟨_, rfl⟩
       rw [hl] at c2 f9 f11
       have hle : l ≤ 66 := by
        have h1 := edges_len HF.out t
        obtain ⟨proc, h2, _⟩ := IM2.out.2.1.ent S.length (t, rest' ++ [x]) (by simp)
        rw [h2] at h1
        simp at h1
        omega
       obtain ⟨y, hy, hyn⟩ := HF.out.edges (IM2.out.2.1.rest (e := (t, rest' ++ [x])) (by simp) (x := x) (by simp))
       subst hy
       rw [HN.out] at hyn
       have HLL := Lib.hid hl
       clear hl e2
       obtain ⟨cy, hcy⟩ : ∃ cy, r.code[y]? = some cy := ⟨_, List.getElem?_eq_getElem (by rw [HN.out]; exact hyn)⟩
       have HCY := Lib.hid hcy
       have P2 := Lib.hid (IM2.out.1.shrink F9.out)
       rw [HM.out, HLL.out] at P2
       have B2 := Lib.hid ((IM2.out.2.2.2).setCell (p := ⟨gk, m, none⟩) f3 (.slice (some ⟨g, 0, none⟩) (l + 1) c))
       clear hcy
       go_wp2_with fail
       refine (visit_any r _ _ _ _ _ rv st (S ++ [(t, rest')]) _ _ y cy w _ P2.out HR.out (Nat.le_refl _) B2.out HCY.out IM2.out.2.1.len (HF.out.to y cy HCY.out).2.1 (HF.out.to y cy HCY.out).2.2 (by simp [HM.out]; omega) (by rw [HN.out]; omega)).mono ?_
       rintro en w3 (⟨h0, v3, vs3, rfl, hm3, hb3⟩ | ⟨z, hz, hz0, rfl, rfl⟩)
       ·have HM3 := Lib.hid hm3
        have HB3 := Lib.hid (B2.out.trans hb3)
        have H0 := Lib.hid h0
        clear hm3 hb3 h0
        go_wp2
        go_roundg (muS (st.set y 1) (S ++ [(t, rest')] ++ [(y, edges r y)]))
        case measure => rw [← IG.out]; exact mu_fresh H0.out (edges_len HF.out y)
        case rel =>
         refine ⟨_, _, D, _, _, Lib.hid ⟨HM3.out, IM2.out.2.1.fresh H0.out, IM2.out.2.2.1, HB3.out⟩, Lib.hid ?_, Lib.hid rfl⟩
         by_cases e : y = k
         ·subst e
          rw [List.getElem?_set_self (by rw [HSN.out]; exact hyn)]
          simp
         ·rw [List.getElem?_set_ne e]; exact IK.out
       ·rcases IM2.out.2.1.vals y z hz with h | h | h
        ·exact absurd h hz0
        ·subst h
         have HCI := Lib.hid (IM2.out.2.1.circle hz)
         rw [show ((1 : Int) == 1) = true from rfl]
         clear hz hz0
         go_wp2
         go_ret
         exact ⟨true, rfl, ⟨(fun _ => HCI.out), (fun _ => rfl)⟩, B2.out⟩
        ·subst h
         have HSK := Lib.hid (IM2.out.2.1.skip hz)
         rw [show ((2 : Int) == 1) = false from rfl]
         clear hz hz0
         go_wp2
         go_roundg (muS st (S ++ [(t, rest')]))
         case measure => rw [← IG.out]; exact mu_skip
         case rel => exact ⟨_, _, D, _, _, Lib.hid ⟨P2.out, HSK.out, IM2.out.2.2.1, B2.out⟩, IK, Lib.hid rfl⟩
   ·have HI := Lib.hid (show RgRel r w.heap.size w.heap.size (w.heap.size + 1 + 1) (w.heap.size + 1 + 1 + 1) (w.heap.size + 1) rv w k [] st D v vs wo from IM.out)
    have HK := Lib.hid (show st[k]? ≠ some 0 by rw [hx]; intro e; injection e with e; exact hx0 e)
    obtain ⟨st1, hst1⟩ : ∃ st1, st = st1 := ⟨_, rfl⟩
    obtain ⟨stk1, hstk1⟩ : ∃ stk1 : Stk, [] = stk1 := ⟨_, rfl⟩
    rw [hst1, hstk1] at HI
    rw [hst1] at HK
    obtain ⟨y, hy⟩ : ∃ y : Bool, (x == 1) = y := ⟨_, rfl⟩
    rw [hy]
    clear hx hx0 hst1 hstk1 IM hy
    go_wp2
    go_loopg [] (muS st1 stk1) (fun g wi => ∃ (stk : Stk) (st : List Int) (D : List Nat) (v : Value) (vs : List Value), Hid (RgRel r w.heap.size w.heap.size (w.heap.size + 1 + 1) (w.heap.size + 1 + 1 + 1) (w.heap.size + 1) rv w k stk st D v vs wi) ∧ Hid (st[k]? ≠ some 0) ∧ Hid (muS st stk = g))
    case atStart => exact ⟨_, _, _, _, _, HI, HK, Lib.hid rfl⟩
    case round =>
     clear HI HK
     obtain ⟨stk, st, D, v, vs, IM2, IK, IG⟩ := hrel
     have hsn := IM2.out.2.1.len
     rw [HN.out] at hsn
     have HSN := Lib.hid hsn
     clear hsn
     rcases List.eq_nil_or_concat stk with rfl | ⟨S, e, rfl⟩
     ·obtain ⟨Av, cv, hv, _⟩ := own_shape IM2.out.1.own
      subst hv
      have cK := IM2.out.1.k.cell 0
      simp at cK
      have sK := IM2.out.1.k.lt
      go_wp2
      refine ⟨⟨k + 1, st, D, _, vs, by omega, by simp, Lib.hid ⟨IM2.out.1, IM2.out.2.1, fun j hj => ?_, IM2.out.2.2.2⟩⟩, by simp [intOf]; omega⟩
      by_cases hjk : j = k
      ·subst hjk
       obtain ⟨x, hx⟩ : ∃ x, st[j]? = some x := ⟨_, List.getElem?_eq_getElem (by rw [HSN.out]; exact hlt)⟩
       rcases IM2.out.2.1.vals j x hx with h | h | h
       ·subst h; exact absurd hx IK.out
       ·subst h; have := (IM2.out.2.1.one j).1 hx; simp at this
       ·subst h; exact (IM2.out.2.1.two j).1 hx
      ·exact IM2.out.2.2.1 j (by omega)
     ·rw [List.concat_eq_append] at *
      obtain ⟨t, rest⟩ := e
      obtain ⟨gk, cv, g, c, rfl, f1, f2, f3, f4, f5, f6, f7, f8, f9, f10, f11, f12, f13, f14, f15, f16, f17, f18⟩ := IM2.out.1.top
      have cK := IM2.out.1.k.cell 0
      have cS := IM2.out.1.s.cell 0
      simp at cK cS
      rw [HSN.out] at cS
      have sK := IM2.out.1.k.lt
      have sS := IM2.out.1.s.lt
      have sT := IM2.out.1.t.lt
      have zK := frz IM2.out.1.k 0
      have htn : t < n := by have := IM2.out.2.1.lt (e := (t, rest)) (by simp); rw [HN.out] at this; exact this
      have htn2 : (t : Int) < (n : Int) := by omega
      have htt : st[t]? = some 1 := (IM2.out.2.1.one t).2 (by simp)
      have cT := st_cell IM2.out.1.t htt
      have zT := frz IM2.out.1.t t
      obtain ⟨m, hm⟩ : ∃ m, S.length = m := ⟨_, rfl⟩
      have F9 := Lib.hid f9
      rw [hm] at f1 f9 f10 cK
      have hmb : m + 1 ≤ 4096 := by have := IM2.out.2.1.small; rw [HN.out] at this; simp at this; omega
      have HM := Lib.hid hm
      have HTT := Lib.hid htt
      have H12 := Lib.hid f12
      have q1 : gk ≠ w.heap.size + 1 := f6
      have hmc : m < cv := by omega
      have hmc2 : (m : Int) < (cv : Int) := by omega
      have hmc3 : (m : Int) + 1 ≤ (cv : Int) := by omega
      clear hm htt f12 f13
      rcases List.eq_nil_or_concat rest with rfl | ⟨rest', x, rfl⟩
      ·have c2 := H12.out.at_ (k := 0) (by simp)
       simp [i64s, ints'] at c2
       simp at f9 f11
       go_wp2_with fail
       go_region
       have P1 := Lib.hid (IM2.out.1.put t 2)
       go_wp2
       go_roundg (muS (st.set t 2) S)
       case measure => rw [← IG.out]; exact mu_pop HTT.out
       case rel =>
        have hpp := P1.out.pop
        rw [HM.out] at hpp
        refine ⟨S, st.set t 2, D ++ [t], _, _, Lib.hid ⟨hpp.drew, IM2.out.2.1.pop, fun j hj => List.mem_append_left _ (IM2.out.2.2.1 j hj), (((IM2.out.2.2.2).setCell (p := ⟨w.heap.size + 1, t, none⟩) IM2.out.1.lT _).setCell (p := ⟨w.heap.size + 1 + 1 + 1, 0, none⟩) IM2.out.1.lK _).drew⟩, Lib.hid ?_, Lib.hid rfl⟩
        by_cases e : t = k
        ·subst e
         rw [List.getElem?_set_self (by rw [HSN.out]; exact htn)]
         simp
        ·rw [List.getElem?_set_ne e]; exact IK.out
      ·rw [List.concat_eq_append] at *
       have c2 := H12.out.at_ (k := rest'.length + 1) (by simp)
       have e2 : (i64s (ints' (t, rest' ++ [x])))[rest'.length + 1]? = some (.int .i64 x) := by simp [i64s, ints']
       rw [List.getElem?_eq_getElem (by simp [i64s, ints'])] at e2
       injection e2 with e2
       rw [e2, Nat.zero_add] at c2
       simp only [List.length_append, List.length_cons, List.length_nil] at f9 f11
       obtain ⟨l, hl⟩ : ∃ l, rest'.length = l := ⟨_, rfl⟩
       rw [hl] at c2 f9 f11
       have hle : l ≤ 66 := by
        have h1 := edges_len HF.out t
        obtain ⟨proc, h2, _⟩ := IM2.out.2.1.ent S.length (t, rest' ++ [x]) (by simp)
        rw [h2] at h1
        simp at h1
        omega
       obtain ⟨y, hy, hyn⟩ := HF.out.edges (IM2.out.2.1.rest (e := (t, rest' ++ [x])) (by simp) (x := x) (by simp))
       subst hy
       rw [HN.out] at hyn
       have HLL := Lib.hid hl
       clear hl e2
       obtain ⟨cy, hcy⟩ : ∃ cy, r.code[y]? = some cy := ⟨_, List.getElem?_eq_getElem (by rw [HN.out]; exact hyn)⟩
       have HCY := Lib.hid hcy
       have P2 := Lib.hid (IM2.out.1.shrink F9.out)
       rw [HM.out, HLL.out] at P2
       have B2 := Lib.hid ((IM2.out.2.2.2).setCell (p := ⟨gk, m, none⟩) f3 (.slice (some ⟨g, 0, none⟩) (l + 1) c))
       clear hcy
       go_wp2_with fail
       refine (visit_any r _ _ _ _ _ rv st (S ++ [(t, rest')]) _ _ y cy w _ P2.out HR.out (Nat.le_refl _) B2.out HCY.out IM2.out.2.1.len (HF.out.to y cy HCY.out).2.1 (HF.out.to y cy HCY.out).2.2 (by simp [HM.out]; omega) (by rw [HN.out]; omega)).mono ?_
       rintro en w3 (⟨h0, v3, vs3, rfl, hm3, hb3⟩ | ⟨z, hz, hz0, rfl, rfl⟩)
       ·have HM3 := Lib.hid hm3
        have HB3 := Lib.hid (B2.out.trans hb3)
        have H0 := Lib.hid h0
        clear hm3 hb3 h0
        go_wp2
        go_roundg (muS (st.set y 1) (S ++ [(t, rest')] ++ [(y, edges r y)]))
        case measure => rw [← IG.out]; exact mu_fresh H0.out (edges_len HF.out y)
        case rel =>
         refine ⟨_, _, D, _, _, Lib.hid ⟨HM3.out, IM2.out.2.1.fresh H0.out, IM2.out.2.2.1, HB3.out⟩, Lib.hid ?_, Lib.hid rfl⟩
         by_cases e : y = k
         ·subst e
          rw [List.getElem?_set_self (by rw [HSN.out]; exact hyn)]
          simp
         ·rw [List.getElem?_set_ne e]; exact IK.out
       ·rcases IM2.out.2.1.vals y z hz with h | h | h
        ·exact absurd h hz0
        ·subst h
         have HCI := Lib.hid (IM2.out.2.1.circle hz)
         rw [show ((1 : Int) == 1) = true from rfl]
         clear hz hz0
         go_wp2
         go_ret
         exact ⟨true, rfl, ⟨(fun _ => HCI.out), (fun _ => rfl)⟩, B2.out⟩
        ·subst h
         have HSK := Lib.hid (IM2.out.2.1.skip hz)
         rw [show ((2 : Int) == 1) = false from rfl]
         clear hz hz0
         go_wp2
         go_roundg (muS st (S ++ [(t, rest')]))
         case measure => rw [← IG.out]; exact mu_skip
         case rel => exact ⟨_, _, D, _, _, Lib.hid ⟨P2.out, HSK.out, IM2.out.2.2.1, B2.out⟩, IK, Lib.hid rfl⟩
  ·have hlt' : decide ((k : Int) < n) = false := by simp; omega
   have HD := Lib.hid (show Ranked r from IM.out.2.1.done.ranked (fun i hi => IM.out.2.2.1 i (by rw [HN.out] at hi; omega)))
   go_wp2
   go_ret
   exact ⟨false, rfl, ⟨(fun h => by cases h), (fun h => absurd HD.out h)⟩, IM.out.2.2.2⟩
end Go.Proofs.YtgmapikcpnffhaaGreat
