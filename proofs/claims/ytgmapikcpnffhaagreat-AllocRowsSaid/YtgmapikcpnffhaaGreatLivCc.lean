/-
 The document's search for circles without a tick: bellcrankref18.circles.
 Conditions: what comes behind an instruction is one.
-/
import Derived.Test.YtgmapikcpnffhaaGreatLivBe
namespace Go.Bk.Liv
open Go Go.Bk
set_option linter.unusedVariables false
set_option linter.unusedSimpArgs false
theorem stays_step {l : List Int} {g : Nat → Bool} {k : Nat} {x : Int} (h : l[k]? = some x) : staysB g (l.take (k + 1)) = (staysB g (l.take k) || !g x.toNat) := by
 obtain ⟨hk, e⟩ := List.getElem?_eq_some_iff.1 h
 rw [List.take_succ_eq_append_getElem hk, e]
 unfold staysB
 rw [List.any_append]
 simp
end Go.Bk.Liv
namespace Go.Proofs.YtgmapikcpnffhaaGreat
open Go.RowKit Go.Bk Go.Bk.Liv
set_option linter.unusedVariables false
set_option linter.unusedSimpArgs false
/-- the search's memory -/
def CcM (w : World) (n : Nat) (rv : Array Value) (g : Nat → Bool) (wi : World) : Prop := RB 4 wi (w.heap.size + 1) n g ∧ Blk wi w.heap.size 31 rv ∧ Below w.heap.size w wi
theorem CcM.keep {w : World} {n : Nat} {rv : Array Value} {g : Nat → Bool} {wi wj : World} (h : CcM w n rv g wi) (hb : Below wi.heap.size wi wj) : CcM w n rv g wj :=
 ⟨h.1.keep hb, h.2.1.below hb h.2.1.lt, h.2.2.trans (hb.mono h.2.2.size)⟩
theorem CcM.set {w : World} {n : Nat} {rv : Array Value} {g : Nat → Bool} {wi : World} (h : CcM w n rv g wi) (i : Nat) : CcM w n rv (fun j => if j = i then true else g j) (wi.setCell ⟨w.heap.size + 1, i, none⟩ (.bool true)) :=
 ⟨h.1.set i true, blk_other h.2.1 (by omega), h.2.2.setCell (p := ⟨w.heap.size + 1, i, none⟩) (by simp) _⟩
/-- a sweep under way, down to the instruction k -/
def CcS (r : RowD) (w : World) (n : Nat) (rv : Array Value) (M k : Nat) (b : Bool) (g : Nat → Bool) (wi : World) : Prop :=
 CcM w n rv g wi ∧ GInv r g ∧ cnt1 n g ≤ M ∧ (b = true → cnt1 n g < M) ∧ (b = false → ∀ j, k ≤ j → j < n → g j = false → staysB g (edges r j) = true)
theorem CcS.stay {r : RowD} {w : World} {n M k : Nat} {rv : Array Value} {b : Bool} {g : Nat → Bool} {wi wj : World} (h : CcS r w n rv M (k + 1) b g wi) (hb : Below wi.heap.size wi wj) (hs : g k = false → staysB g (edges r k) = true) : CcS r w n rv M k b g wj :=
 ⟨h.1.keep hb, h.2.1, h.2.2.1, h.2.2.2.1, fun hbf j hj hn hg => by
  by_cases e : j = k
  ·subst e; exact hs hg
  ·exact h.2.2.2.2 hbf j (by omega) hn hg⟩
theorem CcS.gone {r : RowD} {w : World} {n M k : Nat} {rv : Array Value} {b : Bool} {g : Nat → Bool} {wi wj : World} (h : CcS r w n rv M (k + 1) b g wi) (hb : Below wi.heap.size wi wj) (hf : FlowOk r) (hn : k < n) (hg : g k = false) (hs : staysB g (edges r k) = false) :
  CcS r w n rv M k true (fun j => if j = k then true else g j) (wj.setCell ⟨w.heap.size + 1, k, none⟩ (.bool true)) := by
 have hc := cnt1_set (g := g) hn hg
 exact ⟨(h.1.keep hb).set k, h.2.1.gone hf hs, by have := h.2.2.1; omega, fun _ => by have := h.2.2.1; omega, fun e => by cases e⟩
set_option maxRecDepth 100000 in
set_option maxHeartbeats 8000000 in
theorem circles_any (r : RowD) (vr : Value) (w : World) (hr : RowV w vr r) (hf : FlowOk r) : Calls Tryz.prog 48 #[vr] w (RgPost r w) := by
 obtain ⟨vp, vq, vs, vd, rfl, h4, h5, h6, h7⟩ := hr
 obtain ⟨Ac, cc, rfl, _⟩ := h7.len
 obtain ⟨_, l7, l7'⟩ := h7.lenV
 have H7 := Lib.hid h7
 have HF := Lib.hid hf
 have hn2 := hf.n2
 have hn1 := hf.n1
 have HR := Lib.hid (show RowV w (.agg #[vp, vq, .int .i64 r.places, vs, .slice Ac r.code.length cc]) r from ⟨vp, vq, vs, _, rfl, h4, h5, h6, h7⟩)
 obtain ⟨n, hn⟩ : ∃ n, r.code.length = n := ⟨_, rfl⟩
 rw [hn] at HR hn2 hn1 ⊢
 have HN := Lib.hid hn
 have HB0 := Lib.hid (show Below w.heap.size w (w.alloc (.cells #[vp, vq, .int .i64 r.places, vs, .slice Ac n cc] 31)) from (Below.refl _ _).alloc (Nat.le_refl _) _)
 have K0 := Lib.hid (Blk.new w 31 #[vp, vq, .int .i64 r.places, vs, .slice Ac n cc])
 have mk := run_mk (P := Tryz.prog) 24 4 (.bool false) 1 Tryz.underlying24 info_bool rfl n (by omega) (by omega)
 clear h4 h5 h6 h7 hf hn
 go_enter Tryz.func48, Tryz.ntmps48
 go_wp2
 have HM0 := Lib.hid (show CcM w n #[vp, vq, .int .i64 r.places, vs, .slice Ac n cc] (fun _ => false) ((w.alloc (.cells #[vp, vq, .int .i64 r.places, vs, .slice Ac n cc] 31)).alloc (.cells (Array.replicate n (.bool false)) 4)) from
  ⟨RB.new (t := 4) _ (N := w.heap.size + 1) (n := n) false (by simp), K0.out.alloc _, al2 _ _ _⟩)
 clear mk
 go_loopg [4] (cnt1 n (fun _ => false) * 2 + 1) (fun gk v wi => ∃ (b : Bool) (g : Nat → Bool), v = .bool b ∧ Hid (CcM w n #[vp, vq, .int .i64 r.places, vs, .slice Ac n cc] g wi) ∧ Hid (GInv r g) ∧ Hid (b = false → ∀ j, j < n → g j = false → staysB g (edges r j) = true) ∧ Hid (cnt1 n g * 2 + (if b then 1 else 0) = gk))
 case atStart => exact ⟨true, _, rfl, HM0, Lib.hid (GInv.start r), Lib.hid (fun e => by cases e), Lib.hid rfl⟩
 case round =>
  clear HM0
  obtain ⟨b, g, rfl, IM, IG, IS, IK⟩ := hrel
  cases b with
  | false =>
   have c4 := fun i (hi : i < n) => IM.out.1.cell hi
   have y1 := IM.out.1.lt
   have C4 := Lib.hid c4
   have HD := Lib.hid (IG.out.done HF.out (by rw [HN.out]; exact IS.out rfl))
   rw [HN.out] at HD
   clear c4
   go_wp2
   go_loop [9] (fun i => ∃ k : Nat, k ≤ n ∧ i = .int .i64 k ∧ Hid (∀ j, j < k → g j = true)) (fun i => n - (intOf i).toNat)
   case atStart => exact ⟨0, by omega, rfl, Lib.hid (fun j h => by omega)⟩
   case round =>
    obtain ⟨k, hk, rfl, IA⟩ := hrel
    by_cases hkn : k < n
    ·have t1 : decide ((k : Int) < n) = true := by simp; omega
     have t2 : (k : Int) < n := by omega
     have c4 := C4.out _ hkn
     cases hg : g k with
     | false =>
      rw [hg] at c4
      have HG := Lib.hid hg
      clear hg
      go_wp2
      go_ret
      exact ⟨true, rfl, ⟨fun _ => HD.out.1 ⟨k, hkn, HG.out⟩, fun _ => rfl⟩, IM.out.2.2⟩
     | true =>
      rw [hg] at c4
      have HA := Lib.hid (show ∀ j, j < k + 1 → g j = true from fun j hj => by
       by_cases e : j = k
       ·rw [e, hg]
       ·exact IA.out j (by omega))
      clear hg IA
      go_wp2
      go_round
      case rel => exact ⟨k + 1, by omega, by simp, HA⟩
      case measure => simp [intOf]; omega
    ·have t1 : decide ((k : Int) < n) = false := by simp; omega
     go_wp2
     go_ret
     exact ⟨false, rfl, ⟨fun e => (by cases e), fun h => by
      obtain ⟨i, hi, hg⟩ := HD.out.2 h
      rw [IA.out i (by omega)] at hg
      cases hg⟩, IM.out.2.2⟩
  | true =>
   obtain ⟨M, hM⟩ : ∃ M, cnt1 n g = M := ⟨_, rfl⟩
   have HK := Lib.hid (show M * 2 + 1 = gk by have := IK.out; rw [hM] at this; simpa using this)
   have HS0 := Lib.hid (show CcS r w n #[vp, vq, .int .i64 r.places, vs, .slice Ac n cc] M n false g wr from ⟨IM.out, IG.out, Nat.le_of_eq hM, (fun e => by cases e), fun _ j h1 h2 => by omega⟩)
   obtain ⟨r0, r1, r2, r3, r4⟩ := blk5 IM.out.2.1
   have y1 := IM.out.2.1.lt
   have z1 : IntKind.i64.wrap ((n : Int) - 1) = (n : Int) - 1 := IntWalk.i64_in _ (by omega)
   clear hM IM IG IS IK r0 r1 r2 r3
   go_wp2_with fail
   clear r4 y1
   go_loopw [4, 5] (fun tv iv wi => ∃ (k : Nat) (x : Int) (b : Bool) (g : Nat → Bool), k ≤ n ∧ Hid (x = (k : Int) - 1) ∧ iv = .int .i64 x ∧ tv = .bool b ∧ Hid (CcS r w n #[vp, vq, .int .i64 r.places, vs, .slice Ac n cc] M k b g wi)) (fun _ iv _ => (intOf iv + 1).toNat)
   case atStart => exact ⟨n, _, false, g, by omega, Lib.hid rfl, rfl, rfl, HS0⟩
   case round =>
    clear HS0
    obtain ⟨k, x, b, g, hk, HX, rfl, rfl, IS⟩ := hrel
    rcases Nat.eq_zero_or_pos k with rfl | hpos
    ·have hx : x = -1 := by have := HX.out; omega
     subst hx
     clear HX
     go_wp2
     go_roundg (cnt1 n g * 2 + (if b then 1 else 0))
     case measure =>
      rw [← HK.out]
      have h1 := IS.out.2.2.1
      have h2 := IS.out.2.2.2.1
      cases b with
      | true => have := h2 rfl; simp; omega
      | false => simp; omega
     case rel => exact ⟨b, g, rfl, Lib.hid IS.out.1, Lib.hid IS.out.2.1, Lib.hid (fun e j hj => IS.out.2.2.2.2 e j (by omega) hj), Lib.hid rfl⟩
    ·obtain ⟨k0, rfl⟩ : ∃ k0, k = k0 + 1 := ⟨k - 1, by omega⟩
     have hx : x = (k0 : Int) := by have := HX.out; omega
     subst hx
     have t1 : decide ((0 : Int) ≤ (k0 : Int)) = true := by simp
     have hkn : k0 < n := by omega
     have hkn2 : (k0 : Int) < n := by omega
     have z2 : IntKind.i64.wrap ((k0 : Int) - 1) = (k0 : Int) - 1 := IntWalk.i64_in _ (by omega)
     obtain ⟨c, hc⟩ : ∃ c, r.code[k0]? = some c := ⟨_, List.getElem?_eq_getElem (by rw [HN.out]; exact hkn)⟩
     obtain ⟨gb, go, p, q, tt, rfl, hgb, g0, _⟩ := H7.out.code hc
     replace g0 := (IS.out.1.2.2.cell (p := ⟨gb, _, none⟩) hgb).trans g0
     obtain ⟨r0, r1, r2, r3, r4⟩ := blk5 IS.out.1.2.1
     have y1 := IS.out.1.2.1.lt
     have y2 : gb < wr.heap.size := by have := IS.out.1.2.2.size; omega
     have c4 := IS.out.1.1.cell hkn
     have y4 := IS.out.1.1.lt
     have z4 := frz IS.out.1.1 k0
     have HC := Lib.hid hc
     clear hc HX hpos
     by_cases hop : c.op = 258
     ·have t2 : (c.op != 258) = false := by simp [hop]
      have HE := Lib.hid (edges_tick HC.out hop)
      clear hop
      cases hg : g k0 with
      | true =>
       rw [hg] at c4
       have HS := Lib.hid (IS.out.stay (Below.refl _ _) (fun e => by rw [hg] at e; cases e))
       clear IS hg
       go_wp2
       exact ⟨⟨k0, _, b, g, by omega, Lib.hid rfl, rfl, rfl, HS⟩, by first | (simp [intOf]; done) | (simp [intOf]; omega)⟩
      | false =>
       rw [hg] at c4
       have HS := Lib.hid (IS.out.gone (Below.refl _ _) HF.out hkn hg (by rw [HE.out]; rfl))
       clear IS hg
       go_wp2
       exact ⟨⟨k0, _, true, _, by omega, Lib.hid rfl, rfl, rfl, HS⟩, by first | (simp [intOf]; done) | (simp [intOf]; omega)⟩
     ·have t2 : (c.op != 258) = true := by simp [hop]
      have HE := Lib.hid (edges_of HC.out hop)
      have HBI := Lib.hid IS.out.1.2.2
      clear hop
      go_wp2_with fail
      (with_reducible refine (rnext_any r _ k0 c _ (HR.out.below HBI.out (Nat.le_refl _)) HC.out (HF.out.to k0 c HC.out).2.1).mono ?_)
      rintro en w1 ⟨vl, rfl, hl, hb⟩
      obtain ⟨B, cB, rfl⟩ := hl.shape
      obtain ⟨l, hll⟩ : ∃ l, nextOf c k0 = l := ⟨_, rfl⟩
      rw [hll] at HE
      have HLR := Lib.hid (show ∀ x ∈ l, 0 ≤ x ∧ x < (n : Int) from fun x hx => by rw [← HN.out]; exact (HF.out.to k0 c HC.out).1 x (by rw [hll]; exact hx))
      rw [hll] at hl ⊢
      obtain ⟨m, hm⟩ : ∃ m, l.length = m := ⟨_, rfl⟩
      rw [hm] at hl ⊢
      have hm66 : m ≤ 66 := by rw [← hm, ← hll]; exact (HF.out.to k0 c HC.out).2.2
      have HM := Lib.hid hm
      have HL := Lib.hid hl
      have HBL := Lib.hid hb
      have hS1 := IS.out.1.keep hb
      have C4 := Lib.hid (fun i (hi : i < n) => hS1.1.cell hi)
      have c4 := hS1.1.cell hkn
      have y4 := hS1.1.lt
      have z4 := frz hS1.1 k0
      clear hl hb hll hm hS1 r0 r1 r2 r3 r4 y1 y2 g0
      go_wp2_with fail
      go_loop [6, 8] (fun sv j => ∃ q : Nat, q ≤ m ∧ j = .int .i64 q ∧ sv = .bool (staysB g (l.take q))) (fun _ j => m - (intOf j).toNat)
      case atStart => exact ⟨0, by omega, rfl, by simp [staysB]⟩
      case round =>
       obtain ⟨q, hq, rfl, rfl⟩ := hrel
       by_cases hqm : q < m
       ·have t3 : decide ((q : Int) < m) = true := by simp; omega
        have t4 : (q : Int) < m := by omega
        obtain ⟨x, hx⟩ : ∃ x, l[q]? = some x := ⟨_, List.getElem?_eq_getElem (by rw [HM.out]; exact hqm)⟩
        have hxr := HLR.out x (List.mem_of_getElem? hx)
        obtain ⟨z, rfl⟩ : ∃ z : Nat, x = z := ⟨x.toNat, by omega⟩
        have hzn : (z : Int) < n := hxr.2
        have hzn2 : z < n := by omega
        have HST := Lib.hid (stays_step (g := g) hx)
        rw [Int.toNat_natCast] at HST
        obtain ⟨ab, ao, rfl, hab, hcl⟩ := HL.out.cell hx
        have c5 := C4.out _ hzn2
        clear hx hxr
        cases hs : staysB g (l.take q) with
        | true =>
         have HT := Lib.hid (show staysB g (l.take (q + 1)) = true by rw [HST.out, hs]; rfl)
         clear hs HST
         go_wp2
         go_round
         case rel => exact ⟨q + 1, by omega, by simp, by rw [HT.out]⟩
         case measure => simp [intOf]; omega
        | false =>
         obtain ⟨tb, htb⟩ : ∃ tb, g z = tb := ⟨_, rfl⟩
         rw [htb] at c5
         have HT := Lib.hid (show staysB g (l.take (q + 1)) = !tb by rw [HST.out, hs, htb]; rfl)
         clear hs HST htb
         go_wp2
         go_round
         case rel => exact ⟨q + 1, by omega, by simp, by rw [HT.out]⟩
         case measure => simp [intOf]; omega
       ·have t3 : decide ((q : Int) < m) = false := by simp; omega
        have et : l.take q = l := List.take_of_length_le (by rw [HM.out]; omega)
        rw [et]
        clear et
        cases hs : staysB g l with
        | true =>
         have HS := Lib.hid (IS.out.stay HBL.out (fun _ => by rw [HE.out]; exact hs))
         clear IS hs
         go_wp2
         exact ⟨⟨k0, _, b, g, by omega, Lib.hid rfl, rfl, rfl, HS⟩, by first | (simp [intOf]; done) | (simp [intOf]; omega)⟩
        | false =>
         cases hg : g k0 with
         | true =>
          rw [hg] at c4
          have HS := Lib.hid (IS.out.stay HBL.out (fun e => by rw [hg] at e; cases e))
          clear IS hg hs
          go_wp2
          exact ⟨⟨k0, _, b, g, by omega, Lib.hid rfl, rfl, rfl, HS⟩, by first | (simp [intOf]; done) | (simp [intOf]; omega)⟩
         | false =>
          rw [hg] at c4
          have HS := Lib.hid (IS.out.gone HBL.out HF.out hkn hg (by rw [HE.out]; exact hs))
          clear IS hg hs
          go_wp2
          exact ⟨⟨k0, _, true, _, by omega, Lib.hid rfl, rfl, rfl, HS⟩, by first | (simp [intOf]; done) | (simp [intOf]; omega)⟩
end Go.Proofs.YtgmapikcpnffhaaGreat
