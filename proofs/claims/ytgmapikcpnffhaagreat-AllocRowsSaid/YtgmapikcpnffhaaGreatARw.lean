/-
 Programs told row by row: the document's Right, Homes and Rows, and alloc.Rows.
 Conditions: none.
-/
import Derived.Test.YtgmapikcpnffhaaGreatRWs
import Derived.Test.YtgmapikcpnffhaaGreatLivRCk3
import Derived.Test.YtgmapikcpnffhaaGreatARu
import Derived.Test.YtgmapikcpnffhaaGreatAlcRt
import Derived.Test.YtgmapikcpnffhaaGreatAHo
import Derived.Test.YtgmapikcpnffhaaGreatATd
import Derived.Test.YtgmapikcpnffhaaGreatAlcRun
namespace Go.Proofs.YtgmapikcpnffhaaGreat
open List renaming setIfInBounds_toArray → jA, set_cons_zero → jB, set_cons_succ → jC
open Go.RowKit Go.Bk Go.Bk.Liv
set_option linter.unusedVariables false
set_option linter.unusedSimpArgs false
set_option maxRecDepth 100000 in
set_option maxHeartbeats 8000000 in
theorem RRight_any (p : RowsD) (v : Value) (w : World) (hv : RowsV w v p) : Calls Tryz.prog 22 #[v] w (LrPost p w) := by
 obtain ⟨a, b, d, f, rfl, h1, h2, h3, h4⟩ := hv
 have HE0 := Lib.hid (show EnvV w (.agg #[a, .int .i64 p.env.imports, b, d, .bool p.env.mem]) p.env from ⟨a, b, d, rfl, h1, h2, h3⟩)
 obtain ⟨sA, sc, rfl, _, hsl, _⟩ := h1.len
 obtain ⟨fA, fc, rfl, _, hfl, _⟩ := h4.len
 have HS1 := Lib.hid h1
 have HS4 := Lib.hid h4
 have HB0 := Lib.hid ((Below.refl w.heap.size w).alloc (Nat.le_refl _) (.cells #[.slice sA p.env.sigs.length sc, .int .i64 p.env.imports, b, d, .bool p.env.mem, .slice fA p.fns.length fc] 52))
 have K0 := Lib.hid (Blk.new w 52 #[.slice sA p.env.sigs.length sc, .int .i64 p.env.imports, b, d, .bool p.env.mem, .slice fA p.fns.length fc])
 clear h1 h2 h3 h4
 go_enter Tryz.func22, Tryz.ntmps22
 go_wp2_with fail
 (with_reducible refine (REnvRight_any _ p.env _ (HE0.out.below HB0.out (Nat.le_refl _))).mono ?_)
 rintro en w1 ⟨rfl, hb1⟩
 have HB1 := Lib.hid (HB0.out.trans (hb1.mono HB0.out.size))
 have KP := Lib.hid (K0.out.below hb1 K0.out.lt)
 clear hb1
 cases hev : envOk p.env
 ·go_wp2_with fail
  go_ret
  exact ⟨false, rfl, ⟨fun h => (by cases h), fun h => (by have := h.env; rw [hev] at this; cases this)⟩, HB1.out⟩
 have hep := envOk_parts hev
 obtain ⟨M, hM⟩ : ∃ M : Nat, p.env.imports = (M : Int) := ⟨p.env.imports.toNat, by omega⟩
 obtain ⟨n, hn⟩ : ∃ n, p.fns.length = n := ⟨_, rfl⟩
 obtain ⟨L, hL⟩ : ∃ L, p.env.sigs.length = L := ⟨_, rfl⟩
 obtain ⟨S, hS⟩ : ∃ S, L - M = S := ⟨_, rfl⟩
 have hML : M ≤ L := by omega
 have HEV := Lib.hid hev
 have HM := Lib.hid hM
 have HN := Lib.hid hn
 have HL := Lib.hid hL
 have HSm := Lib.hid (show S + M = L by omega)
 have hM64 : M ≤ 64 := by omega
 have hL64 : L ≤ 64 := by omega
 have hS64 : S ≤ 64 := by omega
 rw [hn] at hfl
 have w1a : IntKind.i64.wrap ((L : Int) - (M : Int)) = (S : Int) := by rw [show (L : Int) - (M : Int) = (S : Int) by omega]; exact IntWalk.i64_in _ (by omega)
 obtain ⟨e0, e1, e2, e3, e4, e5⟩ := blk6 KP.out
 rw [hM] at e1 ⊢
 rw [hL] at e0 HS1 ⊢
 rw [hn] at e5 HS4 ⊢
 have y1 := KP.out.lt
 have HE1 := Lib.hid (show ∀ w', Below w1.heap.size w1 w' → _ ∧ _ ∧ _ ∧ _ ∧ _ ∧ _ from fun w' hb' => ⟨(hb'.cell (p := ⟨w.heap.size, _, none⟩) y1).trans e0, (hb'.cell (p := ⟨w.heap.size, _, none⟩) y1).trans e1, (hb'.cell (p := ⟨w.heap.size, _, none⟩) y1).trans e2, (hb'.cell (p := ⟨w.heap.size, _, none⟩) y1).trans e3, (hb'.cell (p := ⟨w.heap.size, _, none⟩) y1).trans e4, (hb'.cell (p := ⟨w.heap.size, _, none⟩) y1).trans e5⟩)
 clear hev hep hM hn hL hS
 by_cases hSn : n = S
 ·subst hSn
  have q0 : ((n : Int) != (n : Int)) = false := by simp
  go_wp2_with fail
  clear e0 e1 e2 e3 e4 e5 q0 w1a
  go_loopw [3] (fun i wr => ∃ k : Nat, k ≤ n ∧ i = .int .i64 k ∧ Hid (LrInv p M w1 k wr)) (fun i _ => n - (intOf i).toNat)
  case atStart => exact ⟨0, by omega, rfl, Lib.hid ⟨Below.refl _ _, fun j r hj => by omega⟩⟩
  case round =>
   obtain ⟨k, hk, rfl, IU⟩ := hrel
   obtain ⟨e0, e1, e2, e3, e4, e5⟩ := HE1.out _ IU.out.1
   by_cases hkn : k < n
   ·as_aux_lemma =>
    have t1 : decide ((k : Int) < n) = true := by simp; omega
    have t2 : (k : Int) < n := by omega
    obtain ⟨r, hr⟩ : ∃ r, p.fns[k]? = some r := ⟨_, List.getElem?_eq_getElem (by rw [HN.out]; exact hkn)⟩
    obtain ⟨X, hX⟩ : ∃ X, M + k = X := ⟨_, rfl⟩
    obtain ⟨s, hs⟩ : ∃ s, p.env.sigs[X]? = some s := ⟨_, List.getElem?_eq_getElem (by have := HSm.out; have := HL.out; omega)⟩
    have HR := Lib.hid hr
    have HSG := Lib.hid (show p.env.sigs[M + k]? = some s from hX ▸ hs)
    have w2a : IntKind.i64.wrap ((M : Int) + (k : Int)) = (X : Int) := by rw [show (M : Int) + (k : Int) = (X : Int) by omega]; exact IntWalk.i64_in _ (by have := HSm.out; omega)
    have t3 : (X : Int) < L := by have := HSm.out; omega
    have hBw := HB1.out.trans (IU.out.1.mono HB1.out.size)
    have HBW := Lib.hid hBw
    obtain ⟨fb, fo, x0, x1, x3, x4, rfl, hfb, g0, g1, g2, g3, g4, i1, i2, i3, i4⟩ := HS4.out.row hr
    obtain ⟨sb, so, u0, u1, rfl, hsb, g5, g6, i5, i6⟩ := HS1.out.sig hs
    have y2 : w.heap.size < wr.heap.size := Nat.lt_of_lt_of_le y1 IU.out.1.size
    have HF := Lib.hid (show ∀ w', Below wr.heap.size wr w' → _ ∧ _ ∧ _ ∧ _ ∧ _ ∧ _ ∧ _ ∧ _ ∧ _ ∧ _ from fun w' hb' => by
     have hc := hBw.trans (hb'.mono hBw.size)
     exact ⟨(hb'.cell (p := ⟨w.heap.size, _, none⟩) y2).trans e0, (hb'.cell (p := ⟨w.heap.size, _, none⟩) y2).trans e1, (hb'.cell (p := ⟨w.heap.size, _, none⟩) y2).trans e5, (hc.cell (p := ⟨fb, _, none⟩) hfb).trans g0, (hc.cell (p := ⟨fb, _, none⟩) hfb).trans g1, (hc.cell (p := ⟨fb, _, none⟩) hfb).trans g2, (hc.cell (p := ⟨fb, _, none⟩) hfb).trans g3, (hc.cell (p := ⟨fb, _, none⟩) hfb).trans g4, (hc.cell (p := ⟨sb, _, none⟩) hsb).trans g5, (hc.cell (p := ⟨sb, _, none⟩) hsb).trans g6⟩)
    have HF2 := Lib.hid (show ∀ w', Below wr.heap.size wr w' → _ ∧ _ ∧ _ from fun w' hb' => ⟨(hb'.cell (p := ⟨w.heap.size, _, none⟩) y2).trans e2, (hb'.cell (p := ⟨w.heap.size, _, none⟩) y2).trans e3, (hb'.cell (p := ⟨w.heap.size, _, none⟩) y2).trans e4⟩)
    have HI1 := Lib.hid (i1.below hBw (Nat.le_refl _))
    have HI2 := Lib.hid (i2.below hBw (Nat.le_refl _))
    have HI5 := Lib.hid (i5.below hBw (Nat.le_refl _))
    have HI6 := Lib.hid (i6.below hBw (Nat.le_refl _))
    have HRV := Lib.hid ((RowV.of i1 i2 i3 i4).below hBw (Nat.le_refl _))
    have HEV2 := Lib.hid (show EnvV wr (.agg #[.slice (some ⟨sb, so, none⟩) L sc, .int .i64 (M : Int), b, d, .bool p.env.mem]) p.env from by
     have := HE0.out.below hBw (Nat.le_refl _)
     rw [HM.out, HL.out] at this
     exact this)
    clear hr hs hX hBw i1 i2 i3 i4 i5 i6 hfb hsb g0 g1 g2 g3 g4 g5 g6
    go_wp2_with fail
    clear e0 e1 e2 e3 e4 e5
    refine wp_region_D (fun w' => Below wr.heap.size wr w') (fun _ => True) 7 (by kernel_rfl) (drew_below wr) trivial (fun hD => ?_)
    have HBd := Lib.hid (drew_below wr)
    refine wpAnyD_take (i := 0) (v := ?va0) rfl (by kernel_rfl) (by kernel_rfl) (by kernel_rfl) (fun _ _ _ h => h) rfl (Or.inl ⟨by rfl, ?hya0⟩) hD (fun hD => ?_)
    case hya0 => intro wT hSw; obtain ⟨e0, e1, e5, g0, g1, g2, g3, g4, g5, g6⟩ := HF.out _ hSw; obtain ⟨e2, e3, e4⟩ := HF2.out _ hSw; go_simp; (try with_reducible rfl)
    try simp only [Act.put, jA, jB, jC]
    refine wpAnyD_take (i := 1) (v := ?va1) rfl (by kernel_rfl) (by kernel_rfl) (by kernel_rfl) (fun _ _ _ h => h) rfl (Or.inl ⟨by rfl, ?hya1⟩) hD (fun hD => ?_)
    case hya1 => intro wT hSw; obtain ⟨e0, e1, e5, g0, g1, g2, g3, g4, g5, g6⟩ := HF.out _ hSw; obtain ⟨e2, e3, e4⟩ := HF2.out _ hSw; go_simp; (try with_reducible rfl)
    try simp only [Act.put, jA, jB, jC]
    refine wpAnyD_take (i := 2) (v := ?va2) rfl (by kernel_rfl) (by kernel_rfl) (by kernel_rfl) (fun _ _ _ h => h) rfl (Or.inl ⟨by rfl, ?hya2⟩) hD (fun hD => ?_)
    case hya2 => intro wT hSw; obtain ⟨e0, e1, e5, g0, g1, g2, g3, g4, g5, g6⟩ := HF.out _ hSw; obtain ⟨e2, e3, e4⟩ := HF2.out _ hSw; go_simp; (try with_reducible rfl)
    try simp only [Act.put, jA, jB, jC]
    refine wpAnyD_take (i := 3) (v := ?va3) rfl (by kernel_rfl) (by kernel_rfl) (by kernel_rfl) (fun _ _ _ h => h) rfl (Or.inl ⟨by rfl, ?hya3⟩) hD (fun hD => ?_)
    case hya3 => intro wT hSw; obtain ⟨e0, e1, e5, g0, g1, g2, g3, g4, g5, g6⟩ := HF.out _ hSw; obtain ⟨e2, e3, e4⟩ := HF2.out _ hSw; go_simp; (try with_reducible rfl)
    try simp only [Act.put, jA, jB, jC]
    refine wpAnyD_take (i := 4) (v := ?va4) rfl (by kernel_rfl) (by kernel_rfl) (by kernel_rfl) (fun _ _ _ h => h) rfl (Or.inl ⟨by rfl, ?hya4⟩) hD (fun hD => ?_)
    case hya4 => intro wT hSw; obtain ⟨e0, e1, e5, g0, g1, g2, g3, g4, g5, g6⟩ := HF.out _ hSw; obtain ⟨e2, e3, e4⟩ := HF2.out _ hSw; go_simp; (try with_reducible rfl)
    try simp only [Act.put, jA, jB, jC]
    refine wpAnyD_take (i := 5) (v := ?va5) rfl (by kernel_rfl) (by kernel_rfl) (by kernel_rfl) (fun _ _ _ h => h) rfl (Or.inl ⟨by rfl, ?hya5⟩) hD (fun hD => ?_)
    case hya5 => intro wT hSw; obtain ⟨e0, e1, e5, g0, g1, g2, g3, g4, g5, g6⟩ := HF.out _ hSw; obtain ⟨e2, e3, e4⟩ := HF2.out _ hSw; go_simp; (try with_reducible rfl)
    try simp only [Act.put, jA, jB, jC]
    refine wpAnyD_take (i := 6) (v := ?va6) rfl (by kernel_rfl) (by kernel_rfl) (by kernel_rfl) (fun _ _ _ h => h) rfl (Or.inl ⟨by rfl, ?hya6⟩) hD (fun hD => ?_)
    case hya6 => intro wT hSw; obtain ⟨e0, e1, e5, g0, g1, g2, g3, g4, g5, g6⟩ := HF.out _ hSw; obtain ⟨e2, e3, e4⟩ := HF2.out _ hSw; go_simp; (try with_reducible rfl)
    try simp only [Act.put, jA, jB, jC]
    refine wpAnyD_one (i := 7) (by kernel_rfl) rfl (fun K hK => ?_)
    go_simp
    (with_reducible refine (rcheck_any p.env r _ _ _ (HEV2.out.below HBd.out (Nat.le_refl _)) (HRV.out.below HBd.out (Nat.le_refl _))).mono ?_)
    rintro en w2 ⟨bb, rfl, hbb, hb⟩
    have HB2 := Lib.hid (HBd.out.trans (hb.mono HBd.out.size))
    have HBB := Lib.hid hbb
    clear hb hbb
    refine hK.out _ _ ⟨HB2.out, fun _ => trivial⟩ (fun hD => ?_)
    clear hK K
    try simp only [Act.put, jA, jB, jC]
    cases bb
    ·as_aux_lemma =>
     refine wpAnyD_take (i := 8) (v := ?vb8) rfl (by kernel_rfl) (by kernel_rfl) (by kernel_rfl) (fun _ _ _ h => h) rfl (Or.inl ⟨by rfl, ?hyb8⟩) hD (fun hD => ?_)
     case hyb8 => intro wT hSw; go_simp; (try with_reducible rfl)
     try simp only [Act.put, jA, jB, jC]
     refine wpAnyD_take (i := 9) (v := ?vb9) rfl (by kernel_rfl) (by kernel_rfl) (by kernel_rfl) (fun _ _ _ h => h) rfl (Or.inl ⟨by rfl, ?hyb9⟩) hD (fun hD => ?_)
     case hyb9 => intro wT hSw; go_simp; (try with_reducible rfl)
     try simp only [Act.put, jA, jB, jC]
     refine wpAnyD_take (i := 10) (v := undef) rfl (by kernel_rfl) (by kernel_rfl) (by kernel_rfl) (fun _ _ _ h => h) rfl (Or.inr ⟨by rfl, rfl⟩) hD (fun hD => ?_)
     try simp only [Act.put, jA, jB, jC]
     refine wpAnyD_take (i := 11) (v := undef) rfl (by kernel_rfl) (by kernel_rfl) (by kernel_rfl) (fun _ _ _ h => h) rfl (Or.inr ⟨by rfl, rfl⟩) hD (fun hD => ?_)
     try simp only [Act.put, jA, jB, jC]
     refine wpAnyD_take (i := 12) (v := undef) rfl (by kernel_rfl) (by kernel_rfl) (by kernel_rfl) (fun _ _ _ h => h) rfl (Or.inr ⟨by rfl, rfl⟩) hD (fun hD => ?_)
     try simp only [Act.put, jA, jB, jC]
     refine wpAnyD_take (i := 13) (v := undef) rfl (by kernel_rfl) (by kernel_rfl) (by kernel_rfl) (fun _ _ _ h => h) rfl (Or.inr ⟨by rfl, rfl⟩) hD (fun hD => ?_)
     try simp only [Act.put, jA, jB, jC]
     refine wpAnyD_take (i := 14) (v := undef) rfl (by kernel_rfl) (by kernel_rfl) (by kernel_rfl) (fun _ _ _ h => h) rfl (Or.inr ⟨by rfl, rfl⟩) hD (fun hD => ?_)
     try simp only [Act.put, jA, jB, jC]
     refine wpAnyD_take (i := 15) (v := undef) rfl (by kernel_rfl) (by kernel_rfl) (by kernel_rfl) (fun _ _ _ h => h) rfl (Or.inr ⟨by rfl, rfl⟩) hD (fun hD => ?_)
     try simp only [Act.put, jA, jB, jC]
     refine wpAnyD_take (i := 16) (v := undef) rfl (by kernel_rfl) (by kernel_rfl) (by kernel_rfl) (fun _ _ _ h => h) rfl (Or.inr ⟨by rfl, rfl⟩) hD (fun hD => ?_)
     try simp only [Act.put, jA, jB, jC]
     refine wpAnyD_take (i := 17) (v := undef) rfl (by kernel_rfl) (by kernel_rfl) (by kernel_rfl) (fun _ _ _ h => h) rfl (Or.inr ⟨by rfl, rfl⟩) hD (fun hD => ?_)
     try simp only [Act.put, jA, jB, jC]
     refine wpAnyD_take (i := 18) (v := undef) rfl (by kernel_rfl) (by kernel_rfl) (by kernel_rfl) (fun _ _ _ h => h) rfl (Or.inr ⟨by rfl, rfl⟩) hD (fun hD => ?_)
     try simp only [Act.put, jA, jB, jC]
     refine wpAnyD_take (i := 19) (v := undef) rfl (by kernel_rfl) (by kernel_rfl) (by kernel_rfl) (fun _ _ _ h => h) rfl (Or.inr ⟨by rfl, rfl⟩) hD (fun hD => ?_)
     try simp only [Act.put, jA, jB, jC]
     refine wpAnyD_take (i := 20) (v := undef) rfl (by kernel_rfl) (by kernel_rfl) (by kernel_rfl) (fun _ _ _ h => h) rfl (Or.inr ⟨by rfl, rfl⟩) hD (fun hD => ?_)
     try simp only [Act.put, jA, jB, jC]
     refine wpAnyD_take (i := 21) (v := undef) rfl (by kernel_rfl) (by kernel_rfl) (by kernel_rfl) (fun _ _ _ h => h) rfl (Or.inr ⟨by rfl, rfl⟩) hD (fun hD => ?_)
     try simp only [Act.put, jA, jB, jC]
     refine wpAnyD_take (i := 22) (v := undef) rfl (by kernel_rfl) (by kernel_rfl) (by kernel_rfl) (fun _ _ _ h => h) rfl (Or.inr ⟨by rfl, rfl⟩) hD (fun hD => ?_)
     try simp only [Act.put, jA, jB, jC]
     refine wpAnyD_take (i := 23) (v := undef) rfl (by kernel_rfl) (by kernel_rfl) (by kernel_rfl) (fun _ _ _ h => h) rfl (Or.inr ⟨by rfl, rfl⟩) hD (fun hD => ?_)
     try simp only [Act.put, jA, jB, jC]
     refine wpAnyD_take (i := 24) (v := undef) rfl (by kernel_rfl) (by kernel_rfl) (by kernel_rfl) (fun _ _ _ h => h) rfl (Or.inr ⟨by rfl, rfl⟩) hD (fun hD => ?_)
     try simp only [Act.put, jA, jB, jC]
     refine wpAnyD_take (i := 25) (v := undef) rfl (by kernel_rfl) (by kernel_rfl) (by kernel_rfl) (fun _ _ _ h => h) rfl (Or.inr ⟨by rfl, rfl⟩) hD (fun hD => ?_)
     try simp only [Act.put, jA, jB, jC]
     refine wpAnyD_take (i := 26) (v := undef) rfl (by kernel_rfl) (by kernel_rfl) (by kernel_rfl) (fun _ _ _ h => h) rfl (Or.inr ⟨by rfl, rfl⟩) hD (fun hD => ?_)
     try simp only [Act.put, jA, jB, jC]
     refine wpAnyD_take (i := 27) (v := undef) rfl (by kernel_rfl) (by kernel_rfl) (by kernel_rfl) (fun _ _ _ h => h) rfl (Or.inr ⟨by rfl, rfl⟩) hD (fun hD => ?_)
     try simp only [Act.put, jA, jB, jC]
     refine wpAnyD_take (i := 28) (v := ?vb28) rfl (by kernel_rfl) (by kernel_rfl) (by kernel_rfl) (fun _ _ _ h => h) rfl (Or.inl ⟨by rfl, ?hyb28⟩) hD (fun hD => ?_)
     case hyb28 => intro wT hSw; go_simp; (try with_reducible rfl)
     try simp only [Act.put, jA, jB, jC]
     refine wpAnyD_done (by kernel_rfl) ?_ _
     go_wp2_with fail
     go_ret
     refine ⟨false, rfl, ⟨fun h => (by cases h), fun h => ?_⟩, HBW.out.trans (HB2.out.mono HBW.out.size)⟩
     exact HBB.out.2 (h.row k r HR.out).1
    ·as_aux_lemma =>
     refine wpAnyD_take (i := 8) (v := ?vc8) rfl (by kernel_rfl) (by kernel_rfl) (by kernel_rfl) (fun _ _ _ h => h) rfl (Or.inl ⟨by rfl, ?hyc8⟩) hD (fun hD => ?_)
     case hyc8 => intro wT hSw; go_simp; (try with_reducible rfl)
     try simp only [Act.put, jA, jB, jC]
     refine wpAnyD_take (i := 9) (v := ?vc9) rfl (by kernel_rfl) (by kernel_rfl) (by kernel_rfl) (fun _ _ _ h => h) rfl (Or.inl ⟨by rfl, ?hyc9⟩) hD (fun hD => ?_)
     case hyc9 => intro wT hSw; go_simp; (try with_reducible rfl)
     try simp only [Act.put, jA, jB, jC]
     refine wpAnyD_take (i := 10) (v := ?vc10) rfl (by kernel_rfl) (by kernel_rfl) (by kernel_rfl) (fun _ _ _ h => h) rfl (Or.inl ⟨by rfl, ?hyc10⟩) hD (fun hD => ?_)
     case hyc10 => intro wT hSw; go_simp; (try with_reducible rfl)
     try simp only [Act.put, jA, jB, jC]
     refine wpAnyD_take (i := 11) (v := ?vc11) rfl (by kernel_rfl) (by kernel_rfl) (by kernel_rfl) (fun _ _ _ h => h) rfl (Or.inl ⟨by rfl, ?hyc11⟩) hD (fun hD => ?_)
     case hyc11 => intro wT hSw; obtain ⟨e0, e1, e5, g0, g1, g2, g3, g4, g5, g6⟩ := HF.out _ hSw; obtain ⟨e2, e3, e4⟩ := HF2.out _ hSw; go_simp; (try with_reducible rfl)
     try simp only [Act.put, jA, jB, jC]
     refine wpAnyD_take (i := 12) (v := ?vc12) rfl (by kernel_rfl) (by kernel_rfl) (by kernel_rfl) (fun _ _ _ h => h) rfl (Or.inl ⟨by rfl, ?hyc12⟩) hD (fun hD => ?_)
     case hyc12 => intro wT hSw; go_simp; (try with_reducible rfl)
     try simp only [Act.put, jA, jB, jC]
     refine wpAnyD_take (i := 13) (v := ?vc13) rfl (by kernel_rfl) (by kernel_rfl) (by kernel_rfl) (fun _ _ _ h => h) rfl (Or.inl ⟨by rfl, ?hyc13⟩) hD (fun hD => ?_)
     case hyc13 => intro wT hSw; go_simp; (try with_reducible rfl)
     try simp only [Act.put, jA, jB, jC]
     refine wpAnyD_take (i := 14) (v := ?vc14) rfl (by kernel_rfl) (by kernel_rfl) (by kernel_rfl) (fun _ _ _ h => h) rfl (Or.inl ⟨by rfl, ?hyc14⟩) hD (fun hD => ?_)
     case hyc14 => intro wT hSw; go_simp; (try with_reducible rfl)
     try simp only [Act.put, jA, jB, jC]
     refine wpAnyD_take (i := 15) (v := ?vc15) rfl (by kernel_rfl) (by kernel_rfl) (by kernel_rfl) (fun _ _ _ h => h) rfl (Or.inl ⟨by rfl, ?hyc15⟩) hD (fun hD => ?_)
     case hyc15 => intro wT hSw; obtain ⟨e0, e1, e5, g0, g1, g2, g3, g4, g5, g6⟩ := HF.out _ hSw; obtain ⟨e2, e3, e4⟩ := HF2.out _ hSw; go_simp; (try with_reducible rfl)
     try simp only [Act.put, jA, jB, jC]
     refine wpAnyD_take (i := 16) (v := ?vc16) rfl (by kernel_rfl) (by kernel_rfl) (by kernel_rfl) (fun _ _ _ h => h) rfl (Or.inl ⟨by rfl, ?hyc16⟩) hD (fun hD => ?_)
     case hyc16 => intro wT hSw; go_simp; (try with_reducible rfl)
     try simp only [Act.put, jA, jB, jC]
     refine wpAnyD_take (i := 17) (v := ?vc17) rfl (by kernel_rfl) (by kernel_rfl) (by kernel_rfl) (fun _ _ _ h => h) rfl (Or.inl ⟨by rfl, ?hyc17⟩) hD (fun hD => ?_)
     case hyc17 => intro wT hSw; go_simp; (try with_reducible rfl)
     try simp only [Act.put, jA, jB, jC]
     refine wpAnyD_take (i := 18) (v := ?vc18) rfl (by kernel_rfl) (by kernel_rfl) (by kernel_rfl) (fun _ _ _ h => h) rfl (Or.inl ⟨by rfl, ?hyc18⟩) hD (fun hD => ?_)
     case hyc18 => intro wT hSw; obtain ⟨e0, e1, e5, g0, g1, g2, g3, g4, g5, g6⟩ := HF.out _ hSw; obtain ⟨e2, e3, e4⟩ := HF2.out _ hSw; go_simp; (try with_reducible rfl)
     try simp only [Act.put, jA, jB, jC]
     refine wpAnyD_take (i := 19) (v := ?vc19) rfl (by kernel_rfl) (by kernel_rfl) (by kernel_rfl) (fun _ _ _ h => h) rfl (Or.inl ⟨by rfl, ?hyc19⟩) hD (fun hD => ?_)
     case hyc19 => intro wT hSw; go_simp; (try with_reducible rfl)
     try simp only [Act.put, jA, jB, jC]
     refine wpAnyD_take (i := 20) (v := ?vc20) rfl (by kernel_rfl) (by kernel_rfl) (by kernel_rfl) (fun _ _ _ h => h) rfl (Or.inl ⟨by rfl, ?hyc20⟩) hD (fun hD => ?_)
     case hyc20 => intro wT hSw; go_simp; (try with_reducible rfl)
     try simp only [Act.put, jA, jB, jC]
     refine wpAnyD_take (i := 21) (v := ?vc21) rfl (by kernel_rfl) (by kernel_rfl) (by kernel_rfl) (fun _ _ _ h => h) rfl (Or.inl ⟨by rfl, ?hyc21⟩) hD (fun hD => ?_)
     case hyc21 => intro wT hSw; obtain ⟨e0, e1, e5, g0, g1, g2, g3, g4, g5, g6⟩ := HF.out _ hSw; obtain ⟨e2, e3, e4⟩ := HF2.out _ hSw; go_simp; (try with_reducible rfl)
     try simp only [Act.put, jA, jB, jC]
     refine wpAnyD_take (i := 22) (v := ?vc22) rfl (by kernel_rfl) (by kernel_rfl) (by kernel_rfl) (fun _ _ _ h => h) rfl (Or.inl ⟨by rfl, ?hyc22⟩) hD (fun hD => ?_)
     case hyc22 => intro wT hSw; go_simp; (try with_reducible rfl)
     try simp only [Act.put, jA, jB, jC]
     refine wpAnyD_take (i := 23) (v := ?vc23) rfl (by kernel_rfl) (by kernel_rfl) (by kernel_rfl) (fun _ _ _ h => h) rfl (Or.inl ⟨by rfl, ?hyc23⟩) hD (fun hD => ?_)
     case hyc23 => intro wT hSw; go_simp; (try with_reducible rfl)
     try simp only [Act.put, jA, jB, jC]
     refine wpAnyD_take (i := 24) (v := ?vc24) rfl (by kernel_rfl) (by kernel_rfl) (by kernel_rfl) (fun _ _ _ h => h) rfl (Or.inl ⟨by rfl, ?hyc24⟩) hD (fun hD => ?_)
     case hyc24 => intro wT hSw; go_simp; (try with_reducible rfl)
     try simp only [Act.put, jA, jB, jC]
     refine wpAnyD_take (i := 25) (v := ?vc25) rfl (by kernel_rfl) (by kernel_rfl) (by kernel_rfl) (fun _ _ _ h => h) rfl (Or.inl ⟨by rfl, ?hyc25⟩) hD (fun hD => ?_)
     case hyc25 => intro wT hSw; obtain ⟨e0, e1, e5, g0, g1, g2, g3, g4, g5, g6⟩ := HF.out _ hSw; obtain ⟨e2, e3, e4⟩ := HF2.out _ hSw; go_simp; (try with_reducible rfl)
     try simp only [Act.put, jA, jB, jC]
     refine wpAnyD_one (i := 26) (by kernel_rfl) rfl (fun K hK => ?_)
     go_simp
     (with_reducible refine (SameSig_any _ _ _ _ r.sig s _ (HI1.out.below HB2.out (Nat.le_refl _)) (HI2.out.below HB2.out (Nat.le_refl _)) (HI5.out.below HB2.out (Nat.le_refl _)) (HI6.out.below HB2.out (Nat.le_refl _))).mono ?_)
     rintro en w3 ⟨rfl, hb⟩
     have HB3 := Lib.hid (HB2.out.trans (hb.mono HB2.out.size))
     clear hb
     refine hK.out _ _ ⟨HB3.out, fun _ => trivial⟩ (fun hD => ?_)
     clear hK K
     try simp only [Act.put, jA, jB, jC]
     cases hq : sameS r.sig s
     ·as_aux_lemma =>
      refine wpAnyD_take (i := 27) (v := ?vd027) rfl (by kernel_rfl) (by kernel_rfl) (by kernel_rfl) (fun _ _ _ h => h) rfl (Or.inl ⟨by rfl, ?hyd027⟩) hD (fun hD => ?_)
      case hyd027 => intro wT hSw; go_simp; (try with_reducible rfl)
      try simp only [Act.put, jA, jB, jC]
      refine wpAnyD_take (i := 28) (v := ?vd028) rfl (by kernel_rfl) (by kernel_rfl) (by kernel_rfl) (fun _ _ _ h => h) rfl (Or.inl ⟨by rfl, ?hyd028⟩) hD (fun hD => ?_)
      case hyd028 => intro wT hSw; go_simp; (try with_reducible rfl)
      try simp only [Act.put, jA, jB, jC]
      refine wpAnyD_done (by kernel_rfl) ?_ _
      go_wp2_with fail
      go_ret
      refine ⟨false, rfl, ⟨fun h => (by cases h), fun h => ?_⟩, HBW.out.trans (HB3.out.mono HBW.out.size)⟩
      have h1 := (h.row k r HR.out).2
      rw [show p.env.imports.toNat = M by rw [HM.out]; rfl, HSG.out] at h1
      injection h1 with h1
      rw [sameS_iff.2 h1.symm] at hq
      cases hq
     ·as_aux_lemma =>
      refine wpAnyD_take (i := 27) (v := ?vd127) rfl (by kernel_rfl) (by kernel_rfl) (by kernel_rfl) (fun _ _ _ h => h) rfl (Or.inl ⟨by rfl, ?hyd127⟩) hD (fun hD => ?_)
      case hyd127 => intro wT hSw; go_simp; (try with_reducible rfl)
      try simp only [Act.put, jA, jB, jC]
      refine wpAnyD_take (i := 28) (v := ?vd128) rfl (by kernel_rfl) (by kernel_rfl) (by kernel_rfl) (fun _ _ _ h => h) rfl (Or.inl ⟨by rfl, ?hyd128⟩) hD (fun hD => ?_)
      case hyd128 => intro wT hSw; go_simp; (try with_reducible rfl)
      try simp only [Act.put, jA, jB, jC]
      refine wpAnyD_done (by kernel_rfl) ?_ _
      go_wp2_with fail
      have hse := sameS_iff.1 hq
      with_reducible exact ⟨⟨k + 1, by omega, by simp, Lib.hid (IU.out.step HR.out HSG.out (by rw [← hse]) (by rw [← hse]) (HBB.out.1 rfl) HB3.out)⟩, by simp [intOf]; omega⟩
   ·as_aux_lemma =>
    have t1 : decide ((k : Int) < n) = false := by simp; omega
    go_wp2_with fail
    go_ret
    refine ⟨true, rfl, ⟨fun _ => ⟨HEV.out, ?_, fun i r hi => ?_⟩, fun _ => rfl⟩, HB1.out.trans (IU.out.1.mono HB1.out.size)⟩
    ·have := HM.out; have := HN.out; have := HL.out; have := HSm.out; omega
    ·rw [show p.env.imports.toNat = M by rw [HM.out]; rfl]
     exact IU.out.2 i r (by have := (List.getElem?_eq_some_iff.1 hi).1; have := HN.out; omega) hi
 ·have q0 : ((n : Int) != (S : Int)) = true := by simp; omega
  go_wp2_with fail
  go_ret
  refine ⟨false, rfl, ⟨fun h => (by cases h), fun h => ?_⟩, HB1.out⟩
  have := h.len; have := HM.out; have := HN.out; have := HL.out; have := HSm.out; omega
end Go.Proofs.YtgmapikcpnffhaaGreat
namespace Go.Bk.Liv
open Go Go.RowKit Go.Bk
/-- the homes of the first i places are given -/
def HoI (P i : Nat) (D : List Int) : Prop := D.length = P ∧ ∀ (j : Nat) x, D[j]? = some x → (j < i → 0 ≤ x ∧ x ≤ 16 + j) ∧ (i ≤ j → x = -1)
theorem HoI.put {P i a : Nat} {D : List Int} (h : HoI P i D) (ha : a ≤ 16 + i) (hi : i < P) : HoI P (i + 1) (D.set i (a : Int)) := by
 refine ⟨by rw [List.length_set]; exact h.1, fun j x hx => ?_⟩
 by_cases e : i = j
 ·subst e
  rw [List.getElem?_set_self (by have := h.1; omega)] at hx
  injection hx with hx
  subst hx
  exact ⟨fun _ => by omega, fun hj => by omega⟩
 ·rw [List.getElem?_set_ne e] at hx
  have := h.2 j x hx
  exact ⟨fun hj => this.1 (by omega), fun hj => this.2 (by omega)⟩
theorem HoI.le {P i : Nat} {D : List Int} (h : HoI P i D) {j : Nat} {x : Int} (hx : D[j]? = some x) : x ≤ 15 + i := by
 have := h.2 j x hx
 by_cases hj : j < i
 ·have := this.1 hj; omega
 ·have := this.2 (by omega); omega
theorem HoI.done {P : Nat} {D : List Int} (h : HoI P P D) (hP : P ≤ 2032) : ∀ x ∈ D, 0 ≤ x ∧ x < 10000 := by
 intro x hx
 obtain ⟨j, hj⟩ := List.mem_iff_getElem?.1 hx
 have hl := (List.getElem?_eq_some_iff.1 hj).1
 have := (h.2 j x hj).1 (by have := h.1; omega)
 have := h.1
 omega
def HoM (P i : Nat) (D : List Int) : Prop := D.length = P ∧ ∀ j, j < i → D[j]? = some (-1)
theorem HoM.put {P i : Nat} {D : List Int} (h : HoM P i D) (hi : i < P) : HoM P (i + 1) (D.set i (-1)) := by
 refine ⟨by rw [List.length_set]; exact h.1, fun j hj => ?_⟩
 by_cases e : i = j
 ·subst e
  exact List.getElem?_set_self (by have := h.1; omega)
 ·rw [List.getElem?_set_ne e]
  exact h.2 j (by omega)
theorem HoM.done {P : Nat} {D : List Int} (h : HoM P P D) : HoI P 0 D := by
 refine ⟨h.1, fun j x hx => ⟨fun hj => by omega, fun _ => ?_⟩⟩
 have hl := (List.getElem?_eq_some_iff.1 hx).1
 have := h.2 j (by have := h.1; omega)
 rw [this] at hx
 injection hx with hx
 exact hx.symm
end Go.Bk.Liv
namespace Go.Proofs.YtgmapikcpnffhaaGreat
open List renaming setIfInBounds_toArray → jA, set_cons_zero → jB, set_cons_succ → jC
open Go.RowKit Go.Bk Go.Bk.Liv
set_option linter.unusedVariables false
set_option linter.unusedSimpArgs false
def RHoPost (e : EnvD) (r : RowD) (w : World) (en : Ending) (w' : World) : Prop :=
 (¬ CheckP e r ∧ en = .returned (.tuple #[.slice none 0 0, .int .i64 6]) ∧ Below w.heap.size w w') ∨
 (CheckP e r ∧ 2032 < r.places ∧ en = .returned (.tuple #[.slice none 0 0, .int .i64 15]) ∧ Below w.heap.size w w') ∨
 (CheckP e r ∧ ∃ (P : Nat) (hs : List Int) (g : Nat), r.places = P ∧ P ≤ 2032 ∧ hs.length = P ∧ (∀ h ∈ hs, 0 ≤ h ∧ h < 10000) ∧ en = .returned (.tuple #[.slice (some ⟨g, 0, none⟩) P P, .int .i64 0]) ∧ w.heap.size ≤ g ∧ Blk w' g 3 (i64s hs).toArray ∧ Below w.heap.size w w')
def HoW (C : List Int → Prop) (g : Nat) (wS wr : World) : Prop := ∃ D : List Int, C D ∧ Blk wr g 3 (i64s D).toArray ∧ Below g wS wr
theorem HoW.drewN {C : List Int → Prop} {g : Nat} {wS wr : World} (h : HoW C g wS wr) (q : Nat) : HoW C g wS (wr.drewN q) := by
 obtain ⟨D, h1, h2, h3⟩ := h
 exact ⟨D, h1, Blk.drewN h2 q, below_drewN h3 q⟩
theorem HoW.put {C C' : List Int → Prop} {g i : Nat} {x : Int} {wS wr : World} (h : HoW C g wS wr) (hC : ∀ D, C D → C' (D.set i x)) : HoW C' g wS (wr.setCell ⟨g, i, none⟩ (.int .i64 x)) := by
 obtain ⟨D, h1, h2, h3⟩ := h
 exact ⟨D.set i x, hC D h1, Go.Bk.blk_put h2 i x, h3.setCell (p := ⟨g, i, none⟩) (Nat.le_refl _) _⟩
def tgOf : Value → Nat
 | .bool true => 1
 | _ => 0
set_option maxRecDepth 100000 in
set_option maxHeartbeats 16000000 in
theorem rhomes_any (e : EnvD) (r : RowD) (ve vr : Value) (w : World) (he : EnvV w ve e) (hr : RowV w vr r) : Calls Tryz.prog 53 #[ve, vr] w (RHoPost e r w) := by
 have HE := Lib.hid he
 have HR := Lib.hid hr
 obtain ⟨va, vb, vd, rfl, h1, h2, h3⟩ := he
 obtain ⟨vp, vq, vpar, vs, rfl, h4, h5, h6, h7⟩ := hr
 clear h1 h2 h3 h4 h5 h6 h7
 have HB0 := Lib.hid (al2 w (.cells #[va, .int .i64 e.imports, vb, vd, .bool e.mem] 26) (.cells #[vp, vq, .int .i64 r.places, vpar, vs] 31))
 have KE0 := Lib.hid (Blk.alloc (Blk.new w 26 #[va, .int .i64 e.imports, vb, vd, .bool e.mem]) (.cells #[vp, vq, .int .i64 r.places, vpar, vs] 31))
 have KR0 := Lib.hid (Blk.newAt (w.alloc (.cells #[va, .int .i64 e.imports, vb, vd, .bool e.mem] 26)) (N := w.heap.size + 1) 31 #[vp, vq, .int .i64 r.places, vpar, vs] (by simp))
 go_enter Tryz.func53, Tryz.ntmps53
 go_wp2_with fail
 (with_reducible refine (fault_any e r _ _ _ (HE.out.below HB0.out (Nat.le_refl _)) (HR.out.below HB0.out (Nat.le_refl _))).mono ?_)
 rintro en w1 ⟨x, rfl, hf, hb1⟩
 have HB1 := Lib.hid (HB0.out.trans (hb1.mono HB0.out.size))
 have KE1 := Lib.hid (KE0.out.below hb1 KE0.out.lt)
 have KR1 := Lib.hid (KR0.out.below hb1 KR0.out.lt)
 obtain ⟨r0, r1, r2, r3, r4⟩ := blk5 KR1.out
 obtain ⟨s0, s1, s2, s3, s4⟩ := blk5 KE1.out
 have y1 := KR1.out.lt
 have y2 := KE1.out.lt
 clear hb1
 rcases hf with ⟨hn, rfl⟩ | ⟨hc, hbig, rfl⟩ | ⟨hc, hle, rfl⟩
 ·have HNC := Lib.hid hn
  clear hn
  go_wp2_with fail
  go_ret2
  exact .inl ⟨HNC.out, rfl, HB1.out⟩
 ·have HC := Lib.hid hc
  have HBG := Lib.hid hbig
  clear hc hbig
  go_wp2_with fail
  go_ret2
  exact .inr (.inl ⟨HC.out, HBG.out, rfl, HB1.out⟩)
 obtain ⟨P, hP⟩ : ∃ P : Nat, r.places = P := ⟨r.places.toNat, by have := hc.p1; omega⟩
 have hP2 : P ≤ 2032 := by omega
 have HC := Lib.hid hc
 have HP := Lib.hid hP
 clear hc hle hP
 go_wp2_with fail
 (with_reducible refine (rClash_any e r _ _ _ (HE.out.below HB1.out (Nat.le_refl _)) (HR.out.below HB1.out (Nat.le_refl _))).mono ?_)
 rintro en w2 (⟨hnc, _, _⟩ | ⟨_, vC, rfl, hT, hb2⟩)
 ·exact absurd HC.out hnc
 rw [show r.places.toNat = P from by rw [HP.out]; rfl] at hT
 obtain ⟨AC, cC, rfl⟩ := hT.shape
 have HT := Lib.hid hT
 have HB2 := Lib.hid (HB1.out.trans (hb2.mono HB1.out.size))
 have KE2 := Lib.hid (KE1.out.below hb2 KE1.out.lt)
 have KR2 := Lib.hid (KR1.out.below hb2 KR1.out.lt)
 clear r0 r1 r2 r3 r4 s0 s1 s2 s3 s4 y1 y2 hT hb2
 obtain ⟨r0, r1, r2, r3, r4⟩ := blk5 KR2.out
 obtain ⟨s0, s1, s2, s3, s4⟩ := blk5 KE2.out
 have y1 := KR2.out.lt
 have y2 := KE2.out.lt
 go_wp2_with fail
 (with_reducible refine (rAcross_any e r _ _ _ (HE.out.below HB2.out (Nat.le_refl _)) (HR.out.below HB2.out (Nat.le_refl _))).mono ?_)
 rintro en w3 (⟨hnc, _, _⟩ | ⟨_, v3, pl, rfl, ho3, hpl, hset, hb3⟩)
 ·exact absurd HC.out hnc
 obtain ⟨Aa, ca, rfl, _⟩ := own_shape ho3
 have HA3 := Lib.hid (IR.own ho3)
 obtain ⟨mp, hmp⟩ : ∃ m, pl.length = m := ⟨_, rfl⟩
 have HMP := Lib.hid hmp
 rw [hmp] at HA3 hpl ⊢
 have HB3 := Lib.hid (HB2.out.trans (hb3.mono HB2.out.size))
 have HT3 := Lib.hid (HT.out.below hb3)
 have KR3 := Lib.hid (KR2.out.below hb3 KR2.out.lt)
 clear r0 r1 r2 r3 r4 s0 s1 s2 s3 s4 y1 y2 ho3 hset hmp hb3 HT KE2 KE1 KE0 KR2 KR1 KR0 HB2 HB1 HB0
 obtain ⟨r0, r1, r2, r3, r4⟩ := blk5 KR3.out
 have y1 := KR3.out.lt
 rw [HP.out] at r2
 have mk := run_mk (P := Tryz.prog) 23 3 (.int .i64 0) 8 Tryz.underlying23 info_int rfl P (by omega) (by omega)
 have hZ : (List.replicate P (Value.int .i64 0)).toArray = (i64s (List.replicate P 0)).toArray := by simp [i64s]
 rw [hZ] at mk
 clear hZ
 obtain ⟨g, hg⟩ : ∃ g, w3.heap.size = g := ⟨_, rfl⟩
 obtain ⟨sR, hsR⟩ : ∃ s, w.heap.size + 1 = s := ⟨_, rfl⟩
 rw [hsR] at r0 r1 r2 r3 r4 y1 ⊢
 have HSR := Lib.hid (show ∀ w', Below g w3 w' → _ ∧ _ from fun w' hb' => ⟨(hb'.cell (p := ⟨sR, 2, none⟩) (by rw [← hg]; exact y1)).trans r2, (by have := hb'.size; omega : sR < w'.heap.size)⟩)
 go_wp2_with fail
 have HO0 := Lib.hid (show HoW (HoM P 0) g w3 (w3.alloc (.cells (i64s (List.replicate P 0)).toArray 3)) from ⟨_, ⟨by simp, fun j hj => by omega⟩, Blk.newAt _ _ _ hg, (Below.refl g w3).alloc (Nat.le_of_eq hg.symm) _⟩)
 have HG := Lib.hid hg
 obtain ⟨wO, hwO⟩ : ∃ wO, w3.alloc (.cells (i64s (List.replicate P 0)).toArray 3) = wO := ⟨_, rfl⟩
 (try simp only [hg])
 rw [hwO] at HO0 ⊢
 clear hwO mk hg r0 r1 r2 r3 r4 y1
 go_loopw [12] (fun i wr => ∃ k : Nat, k ≤ P ∧ i = .int .i64 k ∧ Hid (HoW (HoM P k) g w3 wr)) (fun i _ => P - (intOf i).toNat)
 case atStart => exact ⟨0, by omega, rfl, HO0⟩
 case round =>
  clear HO0
  obtain ⟨k, hk, rfl, IH⟩ := hrel
  obtain ⟨D, h1, h2, h3⟩ := IH.out
  obtain ⟨e2, y1⟩ := HSR.out _ h3
  by_cases hkP : k < P
  ·have t1 : decide ((k : Int) < P) = true := by simp; omega
   have t2 : (k : Int) < P := by omega
   obtain ⟨u, c1⟩ := Go.Bk.blk_some h2 (show k < D.length by rw [h1.1]; exact hkP)
   have c2 := frz h2 k
   have c3 := h2.lt
   have HNX := Lib.hid (IH.out.put (i := k) (x := -1) (fun D hD => HoM.put hD hkP))
   clear h1 h2 h3 IH
   go_wp2_with fail
   exact ⟨⟨k + 1, by omega, by simp, HNX⟩, by simp [intOf]; omega⟩
  ·as_aux_lemma =>
   have t1 : decide ((k : Int) < P) = false := by simp; omega
   have hkP2 : k = P := by omega
   subst hkP2
   have HO1 := Lib.hid (show HoW (HoI k 0) g w3 wr from ⟨D, h1.done, h2, h3⟩)
   clear h1 h2 h3 IH
   go_wp2_with fail
   clear e2 y1 t1
   go_loopw [13] (fun i wr => ∃ i' : Nat, i' ≤ k ∧ i = .int .i64 i' ∧ Hid (HoW (HoI k i') g w3 wr)) (fun i _ => k - (intOf i).toNat)
   case atStart => exact ⟨0, by omega, rfl, HO1⟩
   case round =>
    clear HO1
    obtain ⟨i, hi, rfl, IH⟩ := hrel
    obtain ⟨e2, y1⟩ := HSR.out _ IH.out.choose_spec.2.2
    by_cases hik : i < k
    ·as_aux_lemma =>
     have t1 : decide ((i : Int) < k) = true := by simp; omega
     have t2 : (i : Int) < k := by omega
     go_wp2_with fail
     clear e2 y1 t1
     go_loopw [14, 15] (fun av j wr => ∃ (j' a : Nat), j' ≤ mp ∧ j = .int .i64 j' ∧ av = .int .i64 a ∧ a ≤ 8 ∧ Hid (HoW (HoI k i) g w3 wr)) (fun _ j _ => mp - (intOf j).toNat)
     case atStart => exact ⟨0, 0, by omega, rfl, rfl, by omega, IH⟩
     case round =>
      clear IH
      obtain ⟨j, a, hj, rfl, rfl, ha, IH⟩ := hrel
      by_cases hjm : j < mp
      ·have t4 : decide ((j : Int) < mp) = true := by simp; omega
       have t5 : (j : Int) < mp := by omega
       obtain ⟨y, hy⟩ : ∃ y, pl[j]? = some y := ⟨_, List.getElem?_eq_getElem (by rw [HMP.out]; exact hjm)⟩
       obtain ⟨cb, co, rfl, hcb, hcy⟩ := HA3.out.cell hy
       obtain ⟨D, h1, h2, h3⟩ := IH.out
       replace hcy := (h3.cell (p := ⟨cb, _, none⟩) (show cb < g by have := HG.out; omega)).trans hcy
       clear hy h1 h2 h3
       by_cases hyi : y = (i : Int)
       ·have t6 : (y == (i : Int)) = true := by simp [hyi]
        clear hyi
        go_wp2_with fail
        exact ⟨⟨j + 1, 8, by omega, by simp, rfl, by omega, IH⟩, by simp [intOf]; omega⟩
       ·have t6 : (y == (i : Int)) = false := by simp [hyi]
        clear hyi
        go_wp2_with fail
        exact ⟨⟨j + 1, a, by omega, by simp, rfl, by omega, IH⟩, by simp [intOf]; omega⟩
      ·as_aux_lemma =>
       have t4 : decide ((j : Int) < mp) = false := by simp; omega
       go_wp2_with fail
       clear t4
       go_loopw [14, 16] (fun av tv wr => ∃ (a : Nat) (b : Bool), a ≤ 16 + i ∧ av = .int .i64 a ∧ tv = .bool b ∧ Hid (HoW (HoI k i) g w3 wr)) (fun av tv _ => (17 + i - (intOf av).toNat) * 2 + tgOf tv)
       case atStart => exact ⟨a, true, by omega, rfl, rfl, IH⟩
       case round =>
        clear IH
        obtain ⟨a, b, ha2, rfl, rfl, IH⟩ := hrel
        cases b
        ·as_aux_lemma =>
         obtain ⟨D, h1, h2, h3⟩ := IH.out
         obtain ⟨u, c1⟩ := Go.Bk.blk_some h2 (show i < D.length by rw [h1.1]; exact hik)
         have c2 := frz h2 i
         have c3 := h2.lt
         have HNX := Lib.hid (IH.out.put (i := i) (x := (a : Int)) (fun D hD => HoI.put hD ha2 hik))
         clear h1 h2 h3 IH
         go_wp2_with fail
         exact ⟨⟨i + 1, by omega, by simp, HNX⟩, by simp [intOf]; omega⟩
        ·as_aux_lemma =>
         obtain ⟨cl, hcl⟩ := HT3.out.get hik
         obtain ⟨b1, o1, B1, k1, rfl, hb1, hc1, hir⟩ := HT3.out.first hik hcl
         have hcz := hcl.small HC.out (fun x hx => hx.range HC.out)
         obtain ⟨m, hm⟩ : ∃ m, cl.length = m := ⟨_, rfl⟩
         rw [hm] at hc1 hir hcz
         have HM1 := Lib.hid hm
         have HIR := Lib.hid hir
         have HCL := Lib.hid hcl
         have HC1 := Lib.hid hc1
         have HLB := Lib.hid (show b1 < g by rw [← HG.out]; exact hb1)
         clear hcl hir hm hc1 hb1
         obtain ⟨b0, hb0⟩ : ∃ b0 : Bool, ((a : Int) == 15) = b0 := ⟨_, rfl⟩
         have HB15 := Lib.hid (show b0 = true → a ≤ 15 + i from fun h => by rw [h] at hb0; simp at hb0; omega)
         go_wp2_with fail
         (try rw [hb0])
         clear hb0
         go_loopw [16, 17] (fun tv j wr => ∃ (j' : Nat) (b : Bool), j' ≤ m ∧ j = .int .i64 j' ∧ tv = .bool b ∧ Hid (b = true → a ≤ 15 + i) ∧ Hid (HoW (HoI k i) g w3 wr)) (fun _ j _ => m - (intOf j).toNat)
         case atStart => exact ⟨0, b0, by omega, rfl, rfl, HB15, IH⟩
         case round =>
          clear IH HB15
          obtain ⟨j, b, hj, rfl, rfl, HB15, IH⟩ := hrel
          obtain ⟨D, h1, h2, h3⟩ := IH.out
          have hc1 := (h3.cell (p := ⟨b1, _, none⟩) HLB.out).trans HC1.out
          have hb1 : b1 < wr.heap.size := by have := h3.size; have := HLB.out; have := HG.out; omega
          by_cases hjm : j < m
          ·have t4 : decide ((j : Int) < m) = true := by simp; omega
           have t5 : (j : Int) < m := by omega
           cases b
           ·obtain ⟨y, hy⟩ : ∃ y, cl[j]? = some y := ⟨_, List.getElem?_eq_getElem (by rw [HM1.out]; exact hjm)⟩
            have hcy := (HCL.out.2 y).1 (List.mem_of_getElem? hy)
            have hyr := Clashes.range HC.out hcy
            rw [HP.out] at hyr
            obtain ⟨zy, rfl⟩ : ∃ z : Nat, y = z := ⟨y.toNat, by omega⟩
            have hzy : zy < k := by omega
            have hzi : (zy : Int) < k := by omega
            obtain ⟨cb, co, rfl, hcb, hcy2⟩ := HIR.out.cell hy
            replace hcy2 := (h3.cell (p := ⟨cb, _, none⟩) (show cb < g by have := HG.out; omega)).trans hcy2
            have hcb2 : cb < wr.heap.size := by have := h3.size; have := HG.out; omega
            obtain ⟨x, hx⟩ : ∃ x, D[zy]? = some x := ⟨_, List.getElem?_eq_getElem (by rw [h1.1]; exact hzy)⟩
            have hcx := Go.Bk.blk_num h2 hx
            have hgl := h2.lt
            have hxl := h1.le hx
            clear hy hcy hyr h1 h2 h3 hx
            obtain ⟨bx, hbx⟩ : ∃ bx : Bool, (x == (a : Int)) = bx := ⟨_, rfl⟩
            have HBX := Lib.hid (show bx = true → a ≤ 15 + i from fun h => by rw [h] at hbx; simp at hbx; omega)
            go_wp2_with fail
            (try rw [hbx])
            exact ⟨⟨j + 1, bx, by omega, by simp, rfl, HBX, IH⟩, by simp [intOf]; omega⟩
           ·clear h1 h2 h3
            go_wp2_with fail
            exact ⟨⟨j + 1, true, by omega, by simp, rfl, HB15, IH⟩, by simp [intOf]; omega⟩
          ·have t4 : decide ((j : Int) < m) = false := by simp; omega
           clear h1 h2 h3
           cases b
           ·go_wp2_with fail
            exact ⟨⟨a, false, by omega, rfl, rfl, IH⟩, by simp [intOf, tgOf]⟩
           ·have ha3 := HB15.out rfl
            go_wp2_with fail
            exact ⟨⟨a + 1, true, by omega, by simp, rfl, IH⟩, by simp [intOf, tgOf]; omega⟩
    ·as_aux_lemma =>
     have t1 : decide ((i : Int) < k) = false := by simp; omega
     have hik2 : i = k := by omega
     subst hik2
     obtain ⟨D, h1, h2, h3⟩ := IH.out
     have HD1 := Lib.hid h1
     have HD2 := Lib.hid h2
     have HD3 := Lib.hid h3
     clear h1 h2 h3 IH
     go_wp2_with fail
     go_ret2
     exact .inr (.inr ⟨HC.out, i, D, g, HP.out, hP2, HD1.out.1, HD1.out.done hP2, rfl, (by have := HB3.out.size; have := HG.out; omega), HD2.out, HB3.out.trans (HD3.out.mono (by have := HB3.out.size; have := HG.out; omega))⟩)
end Go.Proofs.YtgmapikcpnffhaaGreat
namespace Go.Proofs.YtgmapikcpnffhaaGreat
open List renaming setIfInBounds_toArray → jA, set_cons_zero → jB, set_cons_succ → jC
open Go.RowKit Go.Bk Go.Bk.Liv
set_option linter.unusedVariables false
set_option linter.unusedSimpArgs false
theorem own_far {w w' : World} {base n k : Nat} {e : TypeId} {v : Value} {xs : List Value} {r : Option Nat} (ho : w.ownsRow base e k v n xs) (he : e ≠ 31) (hg : w.grownBy w' r) (hr : ∀ g t cs, Blk w g t cs → t ≠ 31 → r ≠ some g) : w'.ownsRow base e k v n xs := own_grown ho hg (fun g hgg => by
  obtain ⟨cur, hb⟩ := own_blk ho hgg
  exact hr g e cur hb he)
theorem CodesO.far {w w' : World} {base : Nat} {v : Value} {C : List CodeD} {r : Option Nat} (h : CodesO w base v C) (hg : w.grownBy w' r) (hr : ∀ g t cs, Blk w g t cs → t ≠ 31 → r ≠ some g) : CodesO w' base v C := by
 obtain ⟨vs, h1, h2, h3⟩ := h
 exact ⟨vs, own_far h1 (by decide) hg hr, h2, fun i cs c q1 q2 => (h3 i cs c q1 q2).grown hg (fun g cs hb => hr g _ cs hb (by decide))⟩
theorem CodesO.otherT {w : World} {base g i : Nat} {t : TypeId} {v : Value} {C : List CodeD} {ks : Array Value} (h : CodesO w base v C) (hk : Blk w g t ks) (h1 : 48 ≠ t) (h2 : 3 ≠ t) (u : Value) : CodesO (w.setCell ⟨g, i, none⟩ u) base v C := by
 obtain ⟨vs, o1, o2, o3⟩ := h
 exact ⟨vs, own_other o1 (own_ne o1 hk h1), o2, fun j cs c q1 q2 => (o3 j cs c q1 q2).other hk h2 u⟩
/-- a told row of the call's own -/
def RowO (w : World) (base : Nat) (cs : List Value) (r : RowD) (hs : List Int) : Prop := ∃ a b p d, cs = [a, b, .int .i64 (topOf hs), p, d] ∧ w.ownsRow base 3 1 a r.sig.inn.length (i64s r.sig.inn) ∧ w.ownsRow base 3 1 b r.sig.out.length (i64s r.sig.out) ∧ w.ownsRow base 3 1 p r.params.length (i64s (toldL hs r.params)) ∧ CodesO w base d (r.code.map (toldC hs))
theorem RowO.far {w w' : World} {base : Nat} {cs : List Value} {x : RowD} {hs : List Int} {r : Option Nat} (h : RowO w base cs x hs) (hg : w.grownBy w' r) (hr : ∀ g t cs, Blk w g t cs → t ≠ 31 → r ≠ some g) : RowO w' base cs x hs := by
 obtain ⟨a, b, p, d, e, h1, h2, h3, h4⟩ := h
 exact ⟨a, b, p, d, e, own_far h1 (by decide) hg hr, own_far h2 (by decide) hg hr, own_far h3 (by decide) hg hr, h4.far hg hr⟩
theorem RowO.other {w : World} {base g i : Nat} {cs : List Value} {x : RowD} {hs : List Int} {ks : Array Value} (h : RowO w base cs x hs) (hk : Blk w g 52 ks) (u : Value) : RowO (w.setCell ⟨g, i, none⟩ u) base cs x hs := by
 obtain ⟨a, b, p, d, e, h1, h2, h3, h4⟩ := h
 exact ⟨a, b, p, d, e, own_other h1 (own_ne h1 hk (by decide)), own_other h2 (own_ne h2 hk (by decide)), own_other h3 (own_ne h3 hk (by decide)), h4.otherT hk (by decide) (by decide) u⟩
theorem RowO.mono {w : World} {base b2 : Nat} {cs : List Value} {x : RowD} {hs : List Int} (h : RowO w base cs x hs) (hb : b2 ≤ base) : RowO w b2 cs x hs := by
 obtain ⟨a, b, p, d, e, h1, h2, h3, h4⟩ := h
 exact ⟨a, b, p, d, e, own_mono h1 hb, own_mono h2 hb, own_mono h3 hb, h4.mono hb⟩
/-- homes of a row -/
def GivenP (x : RowD × List Int) : Prop := ∃ P : Nat, x.1.places = P ∧ P ≤ 2032 ∧ RightX x.1 P x.2
def FnsO (w : World) (base : Nat) (f : Value) (X : List (RowD × List Int)) : Prop := ∃ vs : List (List Value), w.ownsRow base 31 5 f X.length vs.flatten ∧ vs.length = X.length ∧ ∀ (i : Nat) cs x, vs[i]? = some cs → X[i]? = some x → RowO w base cs x.1 x.2
theorem FnsO.nil (w : World) (base : Nat) : FnsO w base (.slice none 0 0) [] := ⟨[], World.ownsRow_nil _ _ _ _, rfl, fun i cs c h => by simp at h⟩
theorem FnsO.below {w w' : World} {base : Nat} {v : Value} {X : List (RowD × List Int)} (h : FnsO w base v X) (hb : Below w.heap.size w w') : FnsO w' base v X := by
 obtain ⟨vs, h1, h2, h3⟩ := h
 exact ⟨vs, own_below h1 hb (Nat.le_refl _), h2, fun i cs c q1 q2 => (h3 i cs c q1 q2).far (below_grownBy hb) (fun _ _ _ _ _ => by simp)⟩
theorem FnsO.other {w : World} {base g i : Nat} {v : Value} {X : List (RowD × List Int)} {ks : Array Value} (h : FnsO w base v X) (hk : Blk w g 52 ks) (u : Value) : FnsO (w.setCell ⟨g, i, none⟩ u) base v X := by
 obtain ⟨vs, h1, h2, h3⟩ := h
 exact ⟨vs, own_other h1 (own_ne h1 hk (by decide)), h2, fun j cs c q1 q2 => (h3 j cs c q1 q2).other hk u⟩
theorem FnsO.push {w w' : World} {base : Nat} {v v' : Value} {X : List (RowD × List Int)} {cs : List Value} {x : RowD × List Int} {vs : List (List Value)} (h1 : w.ownsRow base 31 5 v X.length vs.flatten) (h2 : vs.length = X.length) (h3 : ∀ (i : Nat) cs x, vs[i]? = some cs → X[i]? = some x → RowO w base cs x.1 x.2)
  (hc : RowO w base cs x.1 x.2) (ho : w'.ownsRow base 31 5 v' (X.length + 1) (vs.flatten ++ cs)) (hg : w.grownBy w' v.ownBlock) : FnsO w' base v' (X ++ [x]) := by
 have hr : ∀ g t cs, Blk w g t cs → t ≠ 31 → v.ownBlock ≠ some g := fun g t cs hb ht => own_ne h1 hb (fun e => ht e.symm)
 refine ⟨vs ++ [cs], by rw [List.length_append, List.flatten_append]; simpa using ho, by simp [h2], fun i u y hu hy => ?_⟩
 by_cases hi : i < vs.length
 ·rw [List.getElem?_append_left hi] at hu
  rw [List.getElem?_append_left (by omega)] at hy
  exact (h3 i u y hu hy).far hg hr
 ·rw [List.getElem?_append_right (by omega)] at hu
  rw [List.getElem?_append_right (by omega)] at hy
  have h0 : i - vs.length = 0 := by
   have := (List.getElem?_eq_some_iff.1 hu).1
   simp at this
   omega
  rw [h0] at hu
  rw [← h2, h0] at hy
  simp at hu hy
  subst hu
  subst hy
  exact hc.far hg hr
theorem FnsO.len {w : World} {base : Nat} {v : Value} {X : List (RowD × List Int)} (h : FnsO w base v X) : ∃ A c, v = .slice A X.length c := by
 obtain ⟨vs, h1, _⟩ := h
 obtain ⟨A, c, e, _⟩ := own_shape h1
 exact ⟨A, c, e⟩
/-- such rows are read as the told ones -/
theorem FnsO.structs {e : EnvD} {w : World} {base : Nat} {v : Value} {X : List (RowD × List Int)} (h : FnsO w base v X) (hl : X.length ≤ 100000) (hX : ∀ x ∈ X, CheckP e x.1) : Structs 5 RowC w v (X.map fun x => toldR x.1 x.2) := by
 obtain ⟨vs, h1, h2, h3⟩ := h
 obtain ⟨A, c, rfl, hc⟩ := own_shape h1
 have hcm : c ≤ 9223372036854775807 ∧ (A = none → c = 0) := by
  rcases h1.2 with ⟨e, _⟩ | ⟨g, cap, cur, e, _, _, _, h5, _⟩
  ·injection e with e1 e2 e3; subst e1; subst e3; exact ⟨by omega, fun _ => rfl⟩
  ·injection e with e1 e2 e3; subst e1; subst e3; exact ⟨by unfold maxLen at h5; omega, fun e => by cases e⟩
 have hlm : (X.map fun x => toldR x.1 x.2).length = X.length := by simp
 refine ⟨A, c, vs, by rw [hlm], by rw [hlm]; exact hc, hcm.2, by rw [hlm]; exact ⟨by omega, hcm.1⟩, by rw [hlm]; exact h2, fun r hr => ?_, fun i r y q1 q2 => ?_, by rw [hlm]; exact srcN_of_own h1⟩
 ·obtain ⟨i, hi, rfl⟩ := List.getElem_of_mem hr
  obtain ⟨a, b, p, d, e, _⟩ := h3 i _ _ (List.getElem?_eq_getElem hi) (List.getElem?_eq_getElem (by omega))
  rw [e]
  rfl
 ·rw [List.getElem?_map] at q2
  cases hx : X[i]? with
  | none => rw [hx] at q2; cases q2
  | some x =>
   rw [hx] at q2
   injection q2 with q2
   subst q2
   obtain ⟨a, b, p, d, rfl, o1, o2, o3, o4⟩ := h3 i r x q1 hx
   obtain ⟨_, _, _, _, e', k1, k2, k3, k4⟩ := rowV_run (hX x (List.mem_of_getElem? hx)) o1 o2 o3 o4
   injection e' with e'
   injection e' with e'
   simp only [List.cons.injEq, and_true] at e'
   obtain ⟨rfl, rfl, _, rfl, rfl⟩ := e'
   exact ⟨a, b, p, d, rfl, k1, k2, k3, k4⟩
/-- the program under way -/
def RsB (wL : World) (gb : Nat) (a b d : Value) (im : Int) (mem : Bool) (X : List (RowD × List Int)) (wr : World) : Prop := ∃ f, Blk wr gb 52 #[a, .int .i64 im, b, d, .bool mem, f] ∧ FnsO wr wL.heap.size f X ∧ Below gb wL wr
theorem blk_set6 {w : World} {g : Nat} {t : TypeId} {x0 x1 x2 x3 x4 x5 : Value} (hk : Blk w g t #[x0, x1, x2, x3, x4, x5]) (f : Value) : Blk (w.setCell ⟨g, 5, none⟩ f) g t #[x0, x1, x2, x3, x4, f] := by
 have h := blk_setSame hk 5 f
 simpa using h
theorem RsB.push {wL w w' : World} {gb : Nat} {a b d f f' : Value} {im : Int} {mem : Bool} {X : List (RowD × List Int)} {x : RowD × List Int} {cs : List Value} {vs : List (List Value)} (kb : Blk w gb 52 #[a, .int .i64 im, b, d, .bool mem, f])
  (h1 : w.ownsRow wL.heap.size 31 5 f X.length vs.flatten) (h2 : vs.length = X.length) (h3 : ∀ (i : Nat) cs x, vs[i]? = some cs → X[i]? = some x → RowO w wL.heap.size cs x.1 x.2) (hb : Below gb wL w) (hg : gb ≤ wL.heap.size) (hs : wL.heap.size ≤ w.heap.size)
  (hc : RowO w wL.heap.size cs x.1 x.2) (ho : w'.ownsRow wL.heap.size 31 5 f' (X.length + 1) (vs.flatten ++ cs)) (hgr : w.grownBy w' f.ownBlock) : RsB wL gb a b d im mem (X ++ [x]) (w'.setCell ⟨gb, 5, none⟩ f') := by
 have kb' := kb.grown hgr (own_ne h1 kb (by decide))
 exact ⟨f', blk_set6 kb' f', (FnsO.push h1 h2 h3 hc ho hgr).other kb' _, (below_grown hb hgr (by omega) (fun j hj => by have := (h1.lt j hj).1; omega)).setCell (p := ⟨gb, 5, none⟩) (Nat.le_refl _) _⟩
theorem GivenP.one {r : RowD} {hs hs' : List Int} (h : GivenP (r, hs)) (h' : GivenP (r, hs')) : hs = hs' := by
 obtain ⟨P, h1, h2, h3⟩ := h
 obtain ⟨P', h1', h2', h3'⟩ := h'
 have h1 : r.places = P := h1
 have h1' : r.places = P' := h1'
 have e : P = P' := by omega
 subst e
 exact h3.hr.one h3'.hr
theorem blk_all6 {w : World} {g : Nat} {t : TypeId} {x0 x1 x2 x3 x4 x5 : Value} (hk : Blk w g t #[x0, x1, x2, x3, x4, x5]) (a b c d e f : Value) : Blk ((((((w.setCell ⟨g, 0, none⟩ a).setCell ⟨g, 1, none⟩ b).setCell ⟨g, 2, none⟩ c).setCell ⟨g, 3, none⟩ d).setCell ⟨g, 4, none⟩ e).setCell ⟨g, 5, none⟩ f) g t #[a, b, c, d, e, f] := by
 have h := blk_setSame (blk_setSame (blk_setSame (blk_setSame (blk_setSame (blk_setSame hk 0 a) 1 b) 2 c) 3 d) 4 e) 5 f
 simpa using h
theorem below6 {B : Nat} {w w' : World} {g : Nat} (h : Below B w w') (hg : B ≤ g) (a b c d e f : Value) : Below B w ((((((w'.setCell ⟨g, 0, none⟩ a).setCell ⟨g, 1, none⟩ b).setCell ⟨g, 2, none⟩ c).setCell ⟨g, 3, none⟩ d).setCell ⟨g, 4, none⟩ e).setCell ⟨g, 5, none⟩ f) :=
 (below5 h hg a b c d e).setCell (p := ⟨g, 5, none⟩) hg f
theorem FnsO.all6 {w : World} {base g : Nat} {v : Value} {X : List (RowD × List Int)} {x0 x1 x2 x3 x4 x5 : Value} (h : FnsO w base v X) (hk : Blk w g 52 #[x0, x1, x2, x3, x4, x5]) (a b c d e f : Value) : FnsO ((((((w.setCell ⟨g, 0, none⟩ a).setCell ⟨g, 1, none⟩ b).setCell ⟨g, 2, none⟩ c).setCell ⟨g, 3, none⟩ d).setCell ⟨g, 4, none⟩ e).setCell ⟨g, 5, none⟩ f) base v X := by
 have k0 := blk_setSame hk 0 a
 have k1 := blk_setSame k0 1 b
 have k2 := blk_setSame k1 2 c
 have k3 := blk_setSame k2 3 d
 have k4 := blk_setSame k3 4 e
 exact (((((h.other hk a).other k0 b).other k1 c).other k2 d).other k3 e).other k4 f
/-- the program as far as k rows -/
def RsI (p : RowsD) (wL : World) (gb : Nat) (a b d : Value) (im : Int) (mem : Bool) (k : Nat) (wr : World) : Prop := ∃ X, RsB wL gb a b d im mem X wr ∧ X.map Prod.fst = p.fns.take k ∧ ∀ x ∈ X, GivenP x
end Go.Proofs.YtgmapikcpnffhaaGreat
namespace Go.Proofs.YtgmapikcpnffhaaGreat
open List renaming setIfInBounds_toArray → jA, set_cons_zero → jB, set_cons_succ → jC
open Go.RowKit Go.Bk Go.Bk.Liv
set_option linter.unusedVariables false
set_option linter.unusedSimpArgs false
def zRows : Value := .agg #[.slice none 0 0, .int .i64 0, .slice none 0 0, .slice none 0 0, .bool false, .slice none 0 0]
def AwPost (p : RowsD) (w : World) (en : Ending) (w' : World) : Prop :=
 (¬ ProgP p ∧ en = .returned (.tuple #[zRows, .int .i64 6]) ∧ Below w.heap.size w w') ∨
 (ProgP p ∧ (∃ r ∈ p.fns, 2032 < r.places) ∧ en = .returned (.tuple #[zRows, .int .i64 15]) ∧ Below w.heap.size w w') ∨
 (ProgP p ∧ (∀ r ∈ p.fns, r.places ≤ 2032) ∧ ∃ (X : List (RowD × List Int)) (v : Value), en = .returned (.tuple #[v, .int .i64 0]) ∧ X.map Prod.fst = p.fns ∧ (∀ x ∈ X, GivenP x) ∧ RowsV w' v ⟨p.env, X.map fun x => toldR x.1 x.2⟩ ∧ Below w.heap.size w w')
set_option maxRecDepth 100000 in
theorem arows_results (tm : Array Value) (W : World) (gz : Nat) (a b c d e f x : Value) (h2 : tm.getD 2 undef = .pointer (some ⟨gz, 0, none⟩)) (h3 : tm.getD 3 undef = x) (k : Blk W gz 52 #[a, b, c, d, e, f]) :
  (results Tryz.f20 tm).run Tryz.prog W = .ok (.tuple #[.agg #[a, b, c, d, e, f], x]) W := by
 obtain ⟨z0, z1, z2, z3, z4, z5⟩ := blk6 k
 simp only [Array.getD_eq_getD_getElem?] at h2 h3
 simp [results, Tryz.results20, go_sem, h2, h3, z0, z1, z2, z3, z4, z5]
theorem rowsV_mk {w : World} {a b d f : Value} {x : Int} {m : Bool} {e : EnvD} {G : List RowD} (he : EnvV w (.agg #[a, .int .i64 x, b, d, .bool m]) e) (hf : Structs 5 RowC w f G) : RowsV w (.agg #[a, .int .i64 x, b, d, .bool m, f]) ⟨e, G⟩ := by
 obtain ⟨a', b', d', e', k1, k2, k3⟩ := he
 injection e' with e'
 injection e' with e'
 simp only [List.cons.injEq, and_true] at e'
 obtain ⟨rfl, h1, rfl, rfl, h2⟩ := e'
 refine ⟨a, b, d, f, ?_, k1, k2, k3, hf⟩
 rw [h1, h2]
theorem info_rowA : (Tryz.prog.info? 31).map (fun i => (i.zero, i.size, i.bytes)) = some (some (.agg #[.slice none 0 0, .slice none 0 0, .int .i64 0, .slice none 0 0, .slice none 0 0]), 5, 104) := by kernel_rfl
theorem take_snoc {X : List (RowD × List Int)} {F : List RowD} {k : Nat} {r : RowD} {hs : List Int} (h : X.map Prod.fst = F.take k) (hr : F[k]? = some r) : (X ++ [(r, hs)]).map Prod.fst = F.take (k + 1) := by
 obtain ⟨h1, h2⟩ := List.getElem?_eq_some_iff.1 hr
 rw [List.take_succ_eq_append_getElem h1, h2, List.map_append, h]
 rfl
set_option maxRecDepth 100000 in
set_option maxHeartbeats 16000000 in
theorem arows_any (p : RowsD) (v : Value) (w : World) (hv : RowsV w v p) : Calls Tryz.prog 20 #[v] w (AwPost p w) := by
 have HV := Lib.hid hv
 obtain ⟨a, b, d, f, rfl, h1, h2, h3, h4⟩ := hv
 have HEV := Lib.hid (show EnvV w (.agg #[a, .int .i64 p.env.imports, b, d, .bool p.env.mem]) p.env from ⟨a, b, d, rfl, h1, h2, h3⟩)
 obtain ⟨sA, sc, rfl, _⟩ := h1.len
 obtain ⟨bA, bc, rfl⟩ := h2.shape
 obtain ⟨dA, dc, rfl, _⟩ := id h3
 obtain ⟨fA, fc, rfl, _, hfl, _⟩ := h4.len
 have HS4 := Lib.hid h4
 obtain ⟨n, hn⟩ : ∃ n, p.fns.length = n := ⟨_, rfl⟩
 obtain ⟨im, him⟩ : ∃ i, p.env.imports = i := ⟨_, rfl⟩
 obtain ⟨mm, hmm⟩ : ∃ i, p.env.mem = i := ⟨_, rfl⟩
 rw [hn] at HV HS4 hfl ⊢
 rw [him] at HV HEV ⊢
 rw [hmm] at HV HEV ⊢
 obtain ⟨LS, hLS⟩ : ∃ i, p.env.sigs.length = i := ⟨_, rfl⟩
 obtain ⟨LG, hLG⟩ : ∃ i, p.env.globals.length = i := ⟨_, rfl⟩
 obtain ⟨LM, hLM⟩ : ∃ i, p.env.muts.length = i := ⟨_, rfl⟩
 rw [hLS, hLG, hLM] at HV HEV ⊢
 have HN := Lib.hid hn
 have HIM := Lib.hid (show p.env.imports = im ∧ p.env.mem = mm ∧ p.env.sigs.length = LS ∧ p.env.globals.length = LG ∧ p.env.muts.length = LM from ⟨him, hmm, hLS, hLG, hLM⟩)
 clear h1 h2 h3 h4 hn him hmm hLS hLG hLM
 have HB0 := Lib.hid (two_al w (.cells #[.slice sA LS sc, .int .i64 im, .slice bA LG bc, .slice dA LM dc, .bool mm, .slice fA n fc] 52) (.cells #[.slice none 0 0, .int .i64 0, .slice none 0 0, .slice none 0 0, .bool false, .slice none 0 0] 52))
 have K0 := Lib.hid (Blk.alloc (Blk.new w 52 #[.slice sA LS sc, .int .i64 im, .slice bA LG bc, .slice dA LM dc, .bool mm, .slice fA n fc]) (.cells #[.slice none 0 0, .int .i64 0, .slice none 0 0, .slice none 0 0, .bool false, .slice none 0 0] 52))
 have KZ0 := Lib.hid (Blk.newAt (w.alloc (.cells #[.slice sA LS sc, .int .i64 im, .slice bA LG bc, .slice dA LM dc, .bool mm, .slice fA n fc] 52)) (N := w.heap.size + 1) 52 #[.slice none 0 0, .int .i64 0, .slice none 0 0, .slice none 0 0, .bool false, .slice none 0 0] (by simp))
 obtain ⟨sz, hsz⟩ : ∃ s, w.heap.size = s := ⟨_, rfl⟩
 have HSZ := Lib.hid hsz
 go_enter Tryz.func20, Tryz.ntmps20
 go_wp2_with fail
 (with_reducible refine (LRight_any p _ _ (HV.out.below HB0.out (Nat.le_refl _))).mono ?_)
 rintro en w1 ⟨bb, rfl, hbb, hb1⟩
 have HB1 := Lib.hid (HB0.out.trans (hb1.mono HB0.out.size))
 have K1 := Lib.hid (K0.out.below hb1 K0.out.lt)
 have KZ1 := Lib.hid (KZ0.out.below hb1 KZ0.out.lt)
 rw [hsz] at K1 KZ1
 have HBB := Lib.hid hbb
 clear hb1 hbb HB0 K0 KZ0 hsz
 obtain ⟨z0, z1, z2, z3, z4, z5⟩ := blk6 KZ1.out
 have f0 := frz KZ1.out 0
 have f1 := frz KZ1.out 1
 have f2 := frz KZ1.out 2
 have f3 := frz KZ1.out 3
 have f4 := frz KZ1.out 4
 have f5 := frz KZ1.out 5
 have yz := Blk.lt KZ1.out
 have HZ := Lib.hid (show sz + 1 < w1.heap.size from yz)
 cases bb
 ·have HKF := Lib.hid (blk_all6 KZ1.out (.slice none 0 0) (.int .i64 0) (.slice none 0 0) (.slice none 0 0) (.bool false) (.slice none 0 0))
  have HBF := Lib.hid (below6 HB1.out (show w.heap.size ≤ sz + 1 by have := HSZ.out; omega) (.slice none 0 0) (.int .i64 0) (.slice none 0 0) (.slice none 0 0) (.bool false) (.slice none 0 0))
  go_wp2_with fail
  refine bodyPost_ret (arows_results _ _ (sz + 1) _ _ _ _ _ _ _ rfl rfl HKF.out) rfl ?_
  exact .inl ⟨fun hp => (by have := HBB.out.2 hp; cases this), rfl, HBF.out⟩
 have HPP := Lib.hid (HBB.out.1 rfl)
 have hn64 : n ≤ 64 := by
  have h1 := HPP.out.len
  have h2 := envOk_parts HPP.out.env
  have := HN.out
  omega
 obtain ⟨e0, e1, e2, e3, e4, e5⟩ := blk6 K1.out
 have ye := Blk.lt K1.out
 have HYE := Lib.hid ye
 obtain ⟨gb, hgb⟩ : ∃ g, w1.heap.size = g := ⟨_, rfl⟩
 have HGB := Lib.hid hgb
 have ye2 : sz < gb := by omega
 clear z0 z1 z2 z3 z4 z5 f0 f1 f2 f3 f4 f5 yz HBB
 go_wp2_with fail
 (try simp only [hgb])
 obtain ⟨wL, hwL⟩ : ∃ wL, w1.alloc (.cells #[.slice sA LS sc, .int .i64 im, .slice bA LG bc, .slice dA LM dc, .bool mm, .slice none 0 0] 52) = wL := ⟨_, rfl⟩
 have HL0 := Lib.hid (show RsB wL gb (.slice sA LS sc) (.slice bA LG bc) (.slice dA LM dc) im mm [] wL from ⟨_, hwL ▸ Blk.newAt w1 52 #[.slice sA LS sc, .int .i64 im, .slice bA LG bc, .slice dA LM dc, .bool mm, .slice none 0 0] hgb, FnsO.nil _ _, Below.refl _ _⟩)
 have HI0 := Lib.hid (show RsI p wL gb (.slice sA LS sc) (.slice bA LG bc) (.slice dA LM dc) im mm 0 wL from ⟨[], HL0.out, by simp, fun x hx => by simp at hx⟩)
 have hal : Below w1.heap.size w1 wL := hwL ▸ (Below.refl _ _).alloc (Nat.le_refl _) _
 have HBL := Lib.hid (HB1.out.trans (hal.mono HB1.out.size))
 have HKL := Lib.hid (K1.out.below hal K1.out.lt)
 have HZL := Lib.hid (KZ1.out.below hal KZ1.out.lt)
 have HLS := Lib.hid (show wL.heap.size = gb + 1 by rw [← hwL, ← hgb]; simp)
 (try rw [hwL])
 clear hwL hal e0 e1 e2 e3 e4 e5 ye ye2 hgb HL0
 go_loopw [19] (fun i wr => ∃ k : Nat, k ≤ n ∧ i = .int .i64 k ∧ Hid (RsI p wL gb (.slice sA LS sc) (.slice bA LG bc) (.slice dA LM dc) im mm k wr)) (fun i _ => n - (intOf i).toNat)
 case atStart => exact ⟨0, by omega, rfl, HI0⟩
 case round =>
  clear HI0
  obtain ⟨k, hk, rfl, IU⟩ := hrel
  obtain ⟨X, ⟨f, kb, of, hb⟩, hm, hgv⟩ := IU.out
  have HBw := Lib.hid (HBL.out.trans (hb.mono (show w.heap.size ≤ gb by have := HB1.out.size; have := HGB.out; omega)))
  have KZr := HZL.out.below hb (show sz + 1 < gb by have := HZ.out; have := HGB.out; omega)
  have KEr := HKL.out.below hb (show sz < gb by have := HYE.out; have := HGB.out; omega)
  have hXk : X.length = k := by
   have := congrArg List.length hm
   rw [List.length_map, List.length_take] at this
   have := HN.out
   omega
  have hsz0 := hb.size
  by_cases hkn : k < n
  ·have t1 : decide ((k : Int) < n) = true := by simp; omega
   have t2 : (k : Int) < n := by omega
   obtain ⟨r, hr⟩ : ∃ r, p.fns[k]? = some r := ⟨_, List.getElem?_eq_getElem (by rw [HN.out]; exact hkn)⟩
   have HCK := Lib.hid hr
   obtain ⟨fb, fo, x0, x1, x3, x4, rfl, hfb, g0, g1, g2, g3, g4, i1, i2, i3, i4⟩ := HS4.out.row hr
   have hBw := HBw.out
   replace g0 := (hBw.cell (p := ⟨fb, _, none⟩) hfb).trans g0
   replace g1 := (hBw.cell (p := ⟨fb, _, none⟩) hfb).trans g1
   replace g2 := (hBw.cell (p := ⟨fb, _, none⟩) hfb).trans g2
   replace g3 := (hBw.cell (p := ⟨fb, _, none⟩) hfb).trans g3
   replace g4 := (hBw.cell (p := ⟨fb, _, none⟩) hfb).trans g4
   have z1 : fb < wr.heap.size := by have := hBw.size; omega
   obtain ⟨A0, c0, rfl⟩ := i1.shape
   obtain ⟨A1, c1, rfl⟩ := i2.shape
   obtain ⟨A3, c3, rfl⟩ := i3.shape
   obtain ⟨A4, c4, rfl, _⟩ := i4.len
   have HRV := Lib.hid ((RowV.of i1 i2 i3 i4).below hBw (Nat.le_refl _))
   have HAL := Lib.hid ((Below.refl wr.heap.size wr).alloc (Nat.le_refl _) (.cells #[.slice A0 r.sig.inn.length c0, .slice A1 r.sig.out.length c1, .int .i64 r.places, .slice A3 r.params.length c3, .slice A4 r.code.length c4] 31))
   obtain ⟨e0, e1, e2, e3, e4, e5⟩ := blk6 KEr
   have ye := Blk.lt KEr
   have HKZ := Lib.hid KZr
   have HKE := Lib.hid KEr
   have HKB := Lib.hid kb
   have HOF := Lib.hid of
   have HBB := Lib.hid hb
   have HMP := Lib.hid hm
   have HGV := Lib.hid hgv
   have HXK := Lib.hid hXk
   obtain ⟨Af, cf, hf⟩ := of.len
   rw [hXk] at hf
   subst hf
   clear hr i1 i2 i3 i4 hBw hfb KZr KEr kb of hb hm hgv hXk IU
   go_wp2_with fail
   (with_reducible refine (run_any p.env r _ _ _ ?_ (HRV.out.below HAL.out (Nat.le_refl _))).mono ?_)
   ·have := HIM.out
    rw [← this.1, ← this.2.1, ← this.2.2.1, ← this.2.2.2.1, ← this.2.2.2.2] at HEV ⊢
    exact HEV.out.below (HBw.out.trans (HAL.out.mono HBw.out.size)) (Nat.le_refl _)
   rintro en w4 (⟨hn, _⟩ | ⟨_, hbig, rfl, hb4⟩ | ⟨_, P, hs, a', b', p', d', hP, hP2, hRX, rfl, oa, ob, op, oc, hb4⟩)
   ·exact absurd (HPP.out.row k r HCK.out).1 hn
   ·have HBG := Lib.hid hbig
    have hb14 := HAL.out.trans (hb4.mono HAL.out.size)
    have HKZ4 := Lib.hid (HKZ.out.below hb14 HKZ.out.lt)
    have HB4 := Lib.hid (HBw.out.trans (hb14.mono HBw.out.size))
    have HKZ5 := Lib.hid (Blk.alloc HKZ4.out (.cells #[.slice none 0 0, .slice none 0 0, .int .i64 0, .slice none 0 0, .slice none 0 0] 31))
    have HB5 := Lib.hid (below_al (o := (.cells #[.slice none 0 0, .slice none 0 0, .int .i64 0, .slice none 0 0, .slice none 0 0] 31)) HB4.out)
    clear hbig hb4 hb14 e0 e1 e2 e3 e4 e5 ye g0 g1 g2 g3 g4 z1
    go_upto_region 9 with fail
    obtain ⟨w5, hw5⟩ : ∃ w5, w4.alloc (.cells #[.slice none 0 0, .slice none 0 0, .int .i64 0, .slice none 0 0, .slice none 0 0] 31) = w5 := ⟨_, rfl⟩
    rw [hw5] at HKZ5 HB5 ⊢
    clear hw5
    obtain ⟨z0, z1, z2, z3, z4, z5⟩ := blk6 HKZ5.out
    have f0 := frz HKZ5.out 0
    have f1 := frz HKZ5.out 1
    have f2 := frz HKZ5.out 2
    have f3 := frz HKZ5.out 3
    have f4 := frz HKZ5.out 4
    have f5 := frz HKZ5.out 5
    have yz := Blk.lt HKZ5.out
    have HKF := Lib.hid (blk_all6 HKZ5.out (.slice none 0 0) (.int .i64 0) (.slice none 0 0) (.slice none 0 0) (.bool false) (.slice none 0 0))
    have HBF := Lib.hid (below6 HB5.out (show w.heap.size ≤ sz + 1 by have := HSZ.out; omega) (.slice none 0 0) (.int .i64 0) (.slice none 0 0) (.slice none 0 0) (.bool false) (.slice none 0 0))
    go_wp2_with fail
    refine bodyPost_ret (arows_results _ _ (sz + 1) _ _ _ _ _ _ _ rfl rfl HKF.out) rfl ?_
    exact .inr (.inl ⟨HPP.out, ⟨r, List.mem_of_getElem? HCK.out, HBG.out⟩, rfl, HBF.out⟩)
   ·have hb14 := HAL.out.trans (hb4.mono HAL.out.size)
    have HB14 := Lib.hid hb14
    have hwL : wL.heap.size ≤ (wr.alloc (.cells #[.slice A0 r.sig.inn.length c0, .slice A1 r.sig.out.length c1, .int .i64 r.places, .slice A3 r.params.length c3, .slice A4 r.code.length c4] 31)).heap.size := by have := HAL.out.size; omega
    obtain ⟨B1, d1, rfl, _⟩ := own_shape oa
    obtain ⟨B2, d2, rfl, _⟩ := own_shape ob
    obtain ⟨B3, d3, rfl, _⟩ := own_shape op
    obtain ⟨xs4, hxs4⟩ := oc.row
    rw [List.length_map] at hxs4
    obtain ⟨B4, d4, rfl, _⟩ := own_shape hxs4
    obtain ⟨G0, hG0⟩ : ∃ T, topOf hs = T := ⟨_, rfl⟩
    have HRO := Lib.hid (show RowO w4 wL.heap.size [.slice B1 r.sig.inn.length d1, .slice B2 r.sig.out.length d2, .int .i64 G0, .slice B3 r.params.length d3, .slice B4 r.code.length d4] r hs from ⟨_, _, _, _, by rw [hG0], own_mono oa hwL, own_mono ob hwL, own_mono op hwL, oc.mono hwL⟩)
    rw [hG0]
    have hal := two_al w4 (.cells #[.slice B1 r.sig.inn.length d1, .slice B2 r.sig.out.length d2, .int .i64 G0, .slice B3 r.params.length d3, .slice B4 r.code.length d4] 31) (.cells #[.slice B1 r.sig.inn.length d1, .slice B2 r.sig.out.length d2, .int .i64 G0, .slice B3 r.params.length d3, .slice B4 r.code.length d4] 31)
    have hb6 := hb14.trans (hal.mono hb14.size)
    have hof6 := HOF.out.below hb6
    have kb6 := HKB.out.below hb6 HKB.out.lt
    have hbg6 := HBB.out.trans (hb6.mono (show gb ≤ wr.heap.size by have := HLS.out; omega))
    have hro6 := HRO.out.far (below_grownBy hal) (fun _ _ _ _ _ => by simp)
    have KN6 := Blk.newAt (w4.alloc (.cells #[.slice B1 r.sig.inn.length d1, .slice B2 r.sig.out.length d2, .int .i64 G0, .slice B3 r.params.length d3, .slice B4 r.code.length d4] 31)) (N := w4.heap.size + 1) 31 #[.slice B1 r.sig.inn.length d1, .slice B2 r.sig.out.length d2, .int .i64 G0, .slice B3 r.params.length d3, .slice B4 r.code.length d4] (by simp)
    have HB6 := Lib.hid (HBw.out.trans (hb6.mono HBw.out.size))
    have kb4 := HKB.out.below HB14.out HKB.out.lt
    obtain ⟨e0', e1', e2', e3', e4', b5⟩ := blk6 kb4
    have yb4 := Blk.lt kb4
    obtain ⟨vs, hown, hvl, hvr⟩ := hof6
    rw [HXK.out] at hown
    have HOWN := Lib.hid hown
    have HVL := Lib.hid hvl
    have HVR := Lib.hid hvr
    have HKB6 := Lib.hid kb6
    have HBG6 := Lib.hid hbg6
    have HRO6 := Lib.hid hro6
    have HKN6 := Lib.hid KN6
    have HS6 := Lib.hid hb6.size
    have HGN := Lib.hid (show GivenP (r, hs) from ⟨P, hP, hP2, hRX⟩)
    clear hb4 hb14 hwL oa ob op oc hxs4 hG0 hal hb6 hown hvl hvr kb6 hbg6 hro6 KN6 kb4 e0' e1' e2' e3' e4' hP hP2 hRX e0 e1 e2 e3 e4 e5 ye g0 g1 g2 g3 g4 z1
    go_wp2_with (at_builtin; refine append_at _ rfl (.tmp 35) (.tmp 37) 50 rfl wL.heap.size 31 (.agg #[.slice none 0 0, .slice none 0 0, .int .i64 0, .slice none 0 0, .slice none 0 0]) 5 104 Tryz.underlying50 info_rowA rfl (by omega) (.slice Af k cf) k vs.flatten rfl HOWN.out (some ⟨w4.heap.size + 1, 0, none⟩) 1 1 [.slice B1 r.sig.inn.length d1, .slice B2 r.sig.out.length d2, .int .i64 G0, .slice B3 r.params.length d3, .slice B4 r.code.length d4] rfl (Blk.srcAll (cs := #[.slice B1 r.sig.inn.length d1, .slice B2 r.sig.out.length d2, .int .i64 G0, .slice B3 r.params.length d3, .slice B4 r.code.length d4]) HKN6.out rfl) (one5 _ _ _ _ _ rfl rfl rfl rfl rfl) (by unfold maxLen; omega) (by omega) (by have := HS6.out; have := HLS.out; omega) ?_)
    rintro v' w7 q1 q2 q3 _
    have kb7 := HKB6.out.grown q2 (own_ne HOWN.out HKB6.out (by decide))
    have d5 := (blk6 kb7).2.2.2.2.2
    have fr5 := frz kb7 5
    have yb7 := Blk.lt kb7
    have HFN := Lib.hid (RsB.push (x := (r, hs)) HKB6.out (by rw [HXK.out]; exact HOWN.out) HVL.out HVR.out HBG6.out (by have := HLS.out; omega) (by have := HS6.out; omega) HRO6.out (by rw [HXK.out]; exact q1) q2)
    obtain ⟨A7, c7, rfl, _⟩ := own_shape q1
    clear q1 q2 q3 kb7
    go_wp2_with fail
    exact ⟨⟨k + 1, by omega, by simp, Lib.hid ⟨_, HFN.out, take_snoc HMP.out HCK.out, fun x hx => by
     rcases List.mem_append.1 hx with hx | hx
     ·exact HGV.out x hx
     ·rw [List.mem_singleton.1 hx]; exact HGN.out⟩⟩, by simp [intOf]; omega⟩
  ·have t1 : decide ((k : Int) < n) = false := by simp; omega
   have hkn2 : k = n := by omega
   subst hkn2
   obtain ⟨Af, cf, hf⟩ := of.len
   rw [hXk] at hf
   subst hf
   obtain ⟨b0, b1, b2, b3, b4, b5⟩ := blk6 kb
   have yb := Blk.lt kb
   obtain ⟨z0, z1, z2, z3, z4, z5⟩ := blk6 KZr
   have f0 := frz KZr 0
   have f1 := frz KZr 1
   have f2 := frz KZr 2
   have f3 := frz KZr 3
   have f4 := frz KZr 4
   have f5 := frz KZr 5
   have yz := Blk.lt KZr
   have HKF := Lib.hid (blk_all6 KZr (.slice sA LS sc) (.int .i64 im) (.slice bA LG bc) (.slice dA LM dc) (.bool mm) (.slice Af k cf))
   have HBF := Lib.hid (below6 HBw.out (show w.heap.size ≤ sz + 1 by have := HSZ.out; omega) (.slice sA LS sc) (.int .i64 im) (.slice bA LG bc) (.slice dA LM dc) (.bool mm) (.slice Af k cf))
   have HOF := Lib.hid (of.all6 KZr (.slice sA LS sc) (.int .i64 im) (.slice bA LG bc) (.slice dA LM dc) (.bool mm) (.slice Af k cf))
   have HMP := Lib.hid (show X.map Prod.fst = p.fns by rw [hm, ← HN.out]; exact List.take_length)
   have HGV := Lib.hid hgv
   clear kb of hb hm hgv hXk IU KZr KEr
   go_upto_region 12 with fail
   clear t1 hk hkn hn64
   go_wp2_with fail
   refine bodyPost_ret (arows_results _ _ (sz + 1) _ _ _ _ _ _ _ rfl rfl HKF.out) rfl ?_
   have hlx : X.length ≤ 100000 := by
    have h1 := congrArg List.length HMP.out
    have h2 := envOk_parts HPP.out.env
    have h3 := HPP.out.len
    rw [List.length_map] at h1
    omega
   have hck : ∀ x ∈ X, CheckP p.env x.1 := fun x hx => by
    have hx1 : x.1 ∈ p.fns := by rw [← HMP.out]; exact List.mem_map_of_mem hx
    obtain ⟨i, hi⟩ := List.mem_iff_getElem?.1 hx1
    exact (HPP.out.row i _ hi).1
   refine .inr (.inr ⟨HPP.out, fun r hr => ?_, X, _, rfl, HMP.out, HGV.out, ?_, HBF.out⟩)
   ·rw [← HMP.out] at hr
    obtain ⟨x, hx, rfl⟩ := List.mem_map.1 hr
    obtain ⟨P, h1, h2, _⟩ := HGV.out x hx
    omega
   ·exact rowsV_mk (HEV.out.below HBF.out (Nat.le_refl _)) (HOF.out.structs hlx hck)
end Go.Proofs.YtgmapikcpnffhaaGreat
namespace Go.Proofs.YtgmapikcpnffhaaGreat
open List renaming setIfInBounds_toArray → jA, set_cons_zero → jB, set_cons_succ → jC
open Go.RowKit Go.Bk Go.Bk.Liv
set_option linter.unusedVariables false
set_option linter.unusedSimpArgs false
def RwPost (p : RowsD) (w : World) (en : Ending) (w' : World) : Prop := ∃ (A : Option Addr) (n c : Nat) (im : Int) (B : Option Addr) (nb cb : Nat) (D : Option Addr) (nd cd : Nat) (mm : Bool) (F : Option Addr) (nf cf : Nat) (x : Int),
 en = .returned (.tuple #[.agg #[.slice A n c, .int .i64 im, .slice B nb cb, .slice D nd cd, .bool mm, .slice F nf cf], .int .i64 x]) ∧ ((¬ ProgP p ∧ x = 6) ∨ (ProgP p ∧ (∃ r ∈ p.fns, 2032 < r.places) ∧ x = 15) ∨ (ProgP p ∧ (∀ r ∈ p.fns, r.places ≤ 2032) ∧ x = 0)) ∧ Below w.heap.size w w'
set_option maxRecDepth 100000 in
theorem rrows_results (tm : Array Value) (W : World) (gz : Nat) (a b c d e f x : Value) (h2 : tm.getD 2 undef = .pointer (some ⟨gz, 0, none⟩)) (h3 : tm.getD 3 undef = x) (k : Blk W gz 52 #[a, b, c, d, e, f]) :
  (results Tryz.f21 tm).run Tryz.prog W = .ok (.tuple #[.agg #[a, b, c, d, e, f], x]) W := by
 obtain ⟨z0, z1, z2, z3, z4, z5⟩ := blk6 k
 simp only [Array.getD_eq_getD_getElem?] at h2 h3
 simp [results, Tryz.results21, go_sem, h2, h3, z0, z1, z2, z3, z4, z5]
/-- the program under way: only where it lies -/
def RsS (wL : World) (gb : Nat) (a b d : Value) (im : Int) (mem : Bool) (k : Nat) (wr : World) : Prop := ∃ f xs, Blk wr gb 52 #[a, .int .i64 im, b, d, .bool mem, f] ∧ wr.ownsRow wL.heap.size 31 5 f k xs ∧ Below gb wL wr
theorem RsS.push {wL w w' : World} {gb k : Nat} {a b d f f' : Value} {im : Int} {mem : Bool} {xs ys : List Value} (kb : Blk w gb 52 #[a, .int .i64 im, b, d, .bool mem, f])
  (h1 : w.ownsRow wL.heap.size 31 5 f k xs) (hb : Below gb wL w) (hg : gb ≤ wL.heap.size) (hs : wL.heap.size ≤ w.heap.size) (ho : w'.ownsRow wL.heap.size 31 5 f' (k + 1) ys) (hgr : w.grownBy w' f.ownBlock) : RsS wL gb a b d im mem (k + 1) (w'.setCell ⟨gb, 5, none⟩ f') := by
 have kb' := kb.grown hgr (own_ne h1 kb (by decide))
 exact ⟨f', ys, blk_set6 kb' f', own_other ho (own_ne ho kb' (by decide)), (below_grown hb hgr (by omega) (fun j hj => by have := (h1.lt j hj).1; omega)).setCell (p := ⟨gb, 5, none⟩) (Nat.le_refl _) _⟩
theorem step_row {ops : Array Oper} {o : Oper} {a : Act} {w : World} {K : Act → World → Prop} {Q : Exit → Act → World → Prop} {E : Prop} (hgd : o.guard = none) (x : Operand) (ho : o.op = .buildSlice 50 1 #[(0, x)]) {v0 v1 v2 v3 v4 : Value} (hx : a.eval x = .agg #[v0, v1, v2, v3, v4])
  (h : K (a.put o.dst (.slice (some ⟨w.heap.size, 0, none⟩) 1 1)) (w.alloc (.cells #[v0, v1, v2, v3, v4] 31))) : if Region.wanted o (yielded ops a.tmps) = true then Oper.wp Tryz.prog o a w K Q else E := by
 have hw : Region.wanted o (yielded ops a.tmps) = true := by simp [Region.wanted, hgd]
 rw [if_pos hw]
 have he : (execOp a.eval o).run Tryz.prog w = .ok (.value (.slice (some ⟨w.heap.size, 0, none⟩) 1 1)) (w.alloc (.cells #[v0, v1, v2, v3, v4] 31)) := by
  unfold execOp
  rw [ho]
  simp only [List.map_toArray, List.map_cons, List.map_nil, hx]
  kernel_rfl
 unfold Oper.wp
 rw [he]
 exact h
set_option maxRecDepth 100000 in
set_option maxHeartbeats 16000000 in
theorem rrows_any (p : RowsD) (v : Value) (w : World) (hv : RowsV w v p) : Calls Tryz.prog 21 #[v] w (RwPost p w) := by
 have HV := Lib.hid hv
 obtain ⟨a, b, d, f, rfl, h1, h2, h3, h4⟩ := hv
 have HEV := Lib.hid (show EnvV w (.agg #[a, .int .i64 p.env.imports, b, d, .bool p.env.mem]) p.env from ⟨a, b, d, rfl, h1, h2, h3⟩)
 obtain ⟨sA, sc, rfl, _⟩ := h1.len
 obtain ⟨bA, bc, rfl⟩ := h2.shape
 obtain ⟨dA, dc, rfl, _⟩ := id h3
 obtain ⟨fA, fc, rfl, _, hfl, _⟩ := h4.len
 have HS4 := Lib.hid h4
 obtain ⟨n, hn⟩ : ∃ n, p.fns.length = n := ⟨_, rfl⟩
 obtain ⟨im, him⟩ : ∃ i, p.env.imports = i := ⟨_, rfl⟩
 obtain ⟨mm, hmm⟩ : ∃ i, p.env.mem = i := ⟨_, rfl⟩
 rw [hn] at HV HS4 hfl ⊢
 rw [him] at HV HEV ⊢
 rw [hmm] at HV HEV ⊢
 obtain ⟨LS, hLS⟩ : ∃ i, p.env.sigs.length = i := ⟨_, rfl⟩
 obtain ⟨LG, hLG⟩ : ∃ i, p.env.globals.length = i := ⟨_, rfl⟩
 obtain ⟨LM, hLM⟩ : ∃ i, p.env.muts.length = i := ⟨_, rfl⟩
 rw [hLS, hLG, hLM] at HV HEV ⊢
 have HN := Lib.hid hn
 clear h1 h2 h3 h4 hn him hmm hLS hLG hLM
 have HB0 := Lib.hid (two_al w (.cells #[.slice sA LS sc, .int .i64 im, .slice bA LG bc, .slice dA LM dc, .bool mm, .slice fA n fc] 52) (.cells #[.slice none 0 0, .int .i64 0, .slice none 0 0, .slice none 0 0, .bool false, .slice none 0 0] 52))
 have K0 := Lib.hid (Blk.alloc (Blk.new w 52 #[.slice sA LS sc, .int .i64 im, .slice bA LG bc, .slice dA LM dc, .bool mm, .slice fA n fc]) (.cells #[.slice none 0 0, .int .i64 0, .slice none 0 0, .slice none 0 0, .bool false, .slice none 0 0] 52))
 have KZ0 := Lib.hid (Blk.newAt (w.alloc (.cells #[.slice sA LS sc, .int .i64 im, .slice bA LG bc, .slice dA LM dc, .bool mm, .slice fA n fc] 52)) (N := w.heap.size + 1) 52 #[.slice none 0 0, .int .i64 0, .slice none 0 0, .slice none 0 0, .bool false, .slice none 0 0] (by simp))
 obtain ⟨sz, hsz⟩ : ∃ s, w.heap.size = s := ⟨_, rfl⟩
 have HSZ := Lib.hid hsz
 go_enter Tryz.func21, Tryz.ntmps21
 go_wp2_with fail
 (with_reducible refine (RRight_any p _ _ (HV.out.below HB0.out (Nat.le_refl _))).mono ?_)
 rintro en w1 ⟨bb, rfl, hbb, hb1⟩
 have HB1 := Lib.hid (HB0.out.trans (hb1.mono HB0.out.size))
 have K1 := Lib.hid (K0.out.below hb1 K0.out.lt)
 have KZ1 := Lib.hid (KZ0.out.below hb1 KZ0.out.lt)
 rw [hsz] at K1 KZ1
 have HBB := Lib.hid hbb
 clear hb1 hbb HB0 K0 KZ0 hsz
 obtain ⟨z0, z1, z2, z3, z4, z5⟩ := blk6 KZ1.out
 have f0 := frz KZ1.out 0
 have f1 := frz KZ1.out 1
 have f2 := frz KZ1.out 2
 have f3 := frz KZ1.out 3
 have f4 := frz KZ1.out 4
 have f5 := frz KZ1.out 5
 have yz := Blk.lt KZ1.out
 have HZ := Lib.hid (show sz + 1 < w1.heap.size from yz)
 cases bb
 ·have HKF := Lib.hid (blk_all6 KZ1.out (.slice none 0 0) (.int .i64 0) (.slice none 0 0) (.slice none 0 0) (.bool false) (.slice none 0 0))
  have HBF := Lib.hid (below6 HB1.out (show w.heap.size ≤ sz + 1 by have := HSZ.out; omega) (.slice none 0 0) (.int .i64 0) (.slice none 0 0) (.slice none 0 0) (.bool false) (.slice none 0 0))
  go_wp2_with fail
  refine bodyPost_ret (rrows_results _ _ (sz + 1) _ _ _ _ _ _ _ rfl rfl HKF.out) rfl ?_
  exact ⟨_, _, _, _, _, _, _, _, _, _, _, _, _, _, _, rfl, .inl ⟨fun hp => (by have := HBB.out.2 hp; cases this), rfl⟩, HBF.out⟩
 have HPP := Lib.hid (HBB.out.1 rfl)
 have hn64 : n ≤ 64 := by
  have h1 := HPP.out.len
  have h2 := envOk_parts HPP.out.env
  have := HN.out
  omega
 obtain ⟨e0, e1, e2, e3, e4, e5⟩ := blk6 K1.out
 have ye := Blk.lt K1.out
 have HYE := Lib.hid ye
 obtain ⟨gb, hgb⟩ : ∃ g, w1.heap.size = g := ⟨_, rfl⟩
 have HGB := Lib.hid hgb
 have ye2 : sz < gb := by omega
 clear z0 z1 z2 z3 z4 z5 f0 f1 f2 f3 f4 f5 yz HBB
 go_wp2_with fail
 (try simp only [hgb])
 obtain ⟨wL, hwL⟩ : ∃ wL, w1.alloc (.cells #[.slice sA LS sc, .int .i64 im, .slice bA LG bc, .slice dA LM dc, .bool mm, .slice none 0 0] 52) = wL := ⟨_, rfl⟩
 have HI0 := Lib.hid (show RsS wL gb (.slice sA LS sc) (.slice bA LG bc) (.slice dA LM dc) im mm 0 wL from ⟨_, [], hwL ▸ Blk.newAt w1 52 #[.slice sA LS sc, .int .i64 im, .slice bA LG bc, .slice dA LM dc, .bool mm, .slice none 0 0] hgb, World.ownsRow_nil _ _ _ _, Below.refl _ _⟩)
 have hal : Below w1.heap.size w1 wL := hwL ▸ (Below.refl _ _).alloc (Nat.le_refl _) _
 have HBL := Lib.hid (HB1.out.trans (hal.mono HB1.out.size))
 have HKL := Lib.hid (K1.out.below hal K1.out.lt)
 have HZL := Lib.hid (KZ1.out.below hal KZ1.out.lt)
 have HLS := Lib.hid (show wL.heap.size = gb + 1 by rw [← hwL, ← hgb]; simp)
 (try rw [hwL])
 obtain ⟨ic, hic, hz0, hz1, hz2⟩ := info_parts info_rowA
 clear hwL hal e0 e1 e2 e3 e4 e5 ye ye2 hgb
 go_loopw [5] (fun i wr => ∃ k : Nat, k ≤ n ∧ i = .int .i64 k ∧ Hid (RsS wL gb (.slice sA LS sc) (.slice bA LG bc) (.slice dA LM dc) im mm k wr ∧ ∀ (j : Nat) r, j < k → p.fns[j]? = some r → r.places ≤ 2032)) (fun i _ => n - (intOf i).toNat)
 case atStart => exact ⟨0, by omega, rfl, Lib.hid ⟨HI0.out, fun j r hj => by omega⟩⟩
 case round =>
  clear HI0
  obtain ⟨k, hk, rfl, IU⟩ := hrel
  obtain ⟨⟨f, xs, kb, of, hb⟩, hall⟩ := IU.out
  have HBw := Lib.hid (HBL.out.trans (hb.mono (show w.heap.size ≤ gb by have := HB1.out.size; have := HGB.out; omega)))
  have KZr := HZL.out.below hb (show sz + 1 < gb by have := HZ.out; have := HGB.out; omega)
  have KEr := HKL.out.below hb (show sz < gb by have := HYE.out; have := HGB.out; omega)
  have hsz0 := hb.size
  obtain ⟨Af, cf, rfl, _⟩ := own_shape of
  obtain ⟨e0, e1, e2, e3, e4, e5⟩ := blk6 KEr
  have ye := Blk.lt KEr
  by_cases hkn : k < n
  ·have t1 : decide ((k : Int) < n) = true := by simp; omega
   have t2 : (k : Int) < n := by omega
   obtain ⟨r, hr⟩ : ∃ r, p.fns[k]? = some r := ⟨_, List.getElem?_eq_getElem (by rw [HN.out]; exact hkn)⟩
   have HCK := Lib.hid hr
   obtain ⟨fb, fo, x0, x1, x3, x4, rfl, hfb, g0, g1, g2, g3, g4, i1, i2, i3, i4⟩ := HS4.out.row hr
   have hfg : fb < gb := by have := HB1.out.size; have := HGB.out; omega
   obtain ⟨A0, c0, rfl⟩ := i1.shape
   obtain ⟨A1, c1, rfl⟩ := i2.shape
   obtain ⟨A3, c3, rfl⟩ := i3.shape
   obtain ⟨A4, c4, rfl, _⟩ := i4.len
   have HRV := Lib.hid (RowV.of i1 i2 i3 i4)
   have HWL := Lib.hid (show Below w.heap.size w wL from HBL.out)
   have HSG := Lib.hid (show w.heap.size ≤ gb by have := HB1.out.size; have := HGB.out; omega)
   have HF := Lib.hid (show ∀ w', Below gb wL w' → _ ∧ _ ∧ _ ∧ _ ∧ _ ∧ _ from fun w' hb' => by
    have hc := HBL.out.trans (hb'.mono HSG.out)
    have hsg : sz < gb := by have := HYE.out; have := HGB.out; omega
    exact ⟨(blk6 (HKL.out.below hb' hsg)).2.2.2.2.2, (hc.cell (p := ⟨fb, _, none⟩) hfb).trans g0, (hc.cell (p := ⟨fb, _, none⟩) hfb).trans g1, (hc.cell (p := ⟨fb, _, none⟩) hfb).trans g2, (hc.cell (p := ⟨fb, _, none⟩) hfb).trans g3, (hc.cell (p := ⟨fb, _, none⟩) hfb).trans g4⟩)
   have HF2 := Lib.hid (show ∀ w', Below gb wL w' → _ ∧ _ ∧ _ ∧ _ ∧ _ from fun w' hb' => by
    have hsg : sz < gb := by have := HYE.out; have := HGB.out; omega
    have := blk6 (HKL.out.below hb' hsg)
    exact ⟨this.1, this.2.1, this.2.2.1, this.2.2.2.1, this.2.2.2.2.1⟩)
   have HKB := Lib.hid kb
   have HOF := Lib.hid of
   have HBB := Lib.hid hb
   have HKZ := Lib.hid KZr
   have HCP := Lib.hid (HPP.out.row k r hr).1
   clear hr i1 i2 i3 i4 hfb KEr kb of hb g0 g1 g2 g3 g4 KZr
   go_wp2_with fail
   clear e0 e1 e2 e3 e4 e5
   go_cut [6, 7] (fun hv xv wx => (∃ (A : Option Addr) (nh ch : Nat) (x : Int), hv = .slice A nh ch ∧ xv = .int .i64 x ∧ Hid (Below wr.heap.size wr wx ∧ ((2032 < r.places ∧ x = 15) ∨ (x = 0 ∧ ∃ (P : Nat) (hs : List Int), r.places = P ∧ P ≤ 2032 ∧ hs.length = P ∧ (∀ h ∈ hs, 0 ≤ h ∧ h < 10000) ∧ IR wx (.slice A nh ch) hs)))))
   case first =>
    as_aux_lemma =>
    refine wp_region_D (fun w' => Below wr.heap.size wr w') (fun _ => True) 7 (by kernel_rfl) (drew_below wr) trivial (fun hD => ?_)
    have HBd := Lib.hid (drew_below wr)
    refine wpAnyD_take (i := 0) (v := ?vh0) rfl (by kernel_rfl) (by kernel_rfl) (by kernel_rfl) (fun _ _ _ h => h) rfl (Or.inl ⟨by rfl, ?hyh0⟩) hD (fun hD => ?_)
    case hyh0 => intro wT hSw; obtain ⟨e5, g0, g1, g2, g3, g4⟩ := HF.out _ (HBB.out.trans (hSw.mono (by have := HLS.out; omega))); obtain ⟨e0, e1, e2, e3, e4⟩ := HF2.out _ (HBB.out.trans (hSw.mono (by have := HLS.out; omega))); go_simp; (try with_reducible rfl)
    try simp only [Act.put, jA, jB, jC]
    refine wpAnyD_take (i := 1) (v := ?vh1) rfl (by kernel_rfl) (by kernel_rfl) (by kernel_rfl) (fun _ _ _ h => h) rfl (Or.inl ⟨by rfl, ?hyh1⟩) hD (fun hD => ?_)
    case hyh1 => intro wT hSw; obtain ⟨e5, g0, g1, g2, g3, g4⟩ := HF.out _ (HBB.out.trans (hSw.mono (by have := HLS.out; omega))); obtain ⟨e0, e1, e2, e3, e4⟩ := HF2.out _ (HBB.out.trans (hSw.mono (by have := HLS.out; omega))); go_simp; (try with_reducible rfl)
    try simp only [Act.put, jA, jB, jC]
    refine wpAnyD_take (i := 2) (v := ?vh2) rfl (by kernel_rfl) (by kernel_rfl) (by kernel_rfl) (fun _ _ _ h => h) rfl (Or.inl ⟨by rfl, ?hyh2⟩) hD (fun hD => ?_)
    case hyh2 => intro wT hSw; obtain ⟨e5, g0, g1, g2, g3, g4⟩ := HF.out _ (HBB.out.trans (hSw.mono (by have := HLS.out; omega))); obtain ⟨e0, e1, e2, e3, e4⟩ := HF2.out _ (HBB.out.trans (hSw.mono (by have := HLS.out; omega))); go_simp; (try with_reducible rfl)
    try simp only [Act.put, jA, jB, jC]
    refine wpAnyD_take (i := 3) (v := ?vh3) rfl (by kernel_rfl) (by kernel_rfl) (by kernel_rfl) (fun _ _ _ h => h) rfl (Or.inl ⟨by rfl, ?hyh3⟩) hD (fun hD => ?_)
    case hyh3 => intro wT hSw; obtain ⟨e5, g0, g1, g2, g3, g4⟩ := HF.out _ (HBB.out.trans (hSw.mono (by have := HLS.out; omega))); obtain ⟨e0, e1, e2, e3, e4⟩ := HF2.out _ (HBB.out.trans (hSw.mono (by have := HLS.out; omega))); go_simp; (try with_reducible rfl)
    try simp only [Act.put, jA, jB, jC]
    refine wpAnyD_take (i := 4) (v := ?vh4) rfl (by kernel_rfl) (by kernel_rfl) (by kernel_rfl) (fun _ _ _ h => h) rfl (Or.inl ⟨by rfl, ?hyh4⟩) hD (fun hD => ?_)
    case hyh4 => intro wT hSw; obtain ⟨e5, g0, g1, g2, g3, g4⟩ := HF.out _ (HBB.out.trans (hSw.mono (by have := HLS.out; omega))); obtain ⟨e0, e1, e2, e3, e4⟩ := HF2.out _ (HBB.out.trans (hSw.mono (by have := HLS.out; omega))); go_simp; (try with_reducible rfl)
    try simp only [Act.put, jA, jB, jC]
    refine wpAnyD_take (i := 5) (v := ?vh5) rfl (by kernel_rfl) (by kernel_rfl) (by kernel_rfl) (fun _ _ _ h => h) rfl (Or.inl ⟨by rfl, ?hyh5⟩) hD (fun hD => ?_)
    case hyh5 => intro wT hSw; obtain ⟨e5, g0, g1, g2, g3, g4⟩ := HF.out _ (HBB.out.trans (hSw.mono (by have := HLS.out; omega))); obtain ⟨e0, e1, e2, e3, e4⟩ := HF2.out _ (HBB.out.trans (hSw.mono (by have := HLS.out; omega))); go_simp; (try with_reducible rfl)
    try simp only [Act.put, jA, jB, jC]
    refine wpAnyD_take (i := 6) (v := ?vh6) rfl (by kernel_rfl) (by kernel_rfl) (by kernel_rfl) (fun _ _ _ h => h) rfl (Or.inl ⟨by rfl, ?hyh6⟩) hD (fun hD => ?_)
    case hyh6 => intro wT hSw; obtain ⟨e5, g0, g1, g2, g3, g4⟩ := HF.out _ (HBB.out.trans (hSw.mono (by have := HLS.out; omega))); obtain ⟨e0, e1, e2, e3, e4⟩ := HF2.out _ (HBB.out.trans (hSw.mono (by have := HLS.out; omega))); go_simp; (try with_reducible rfl)
    try simp only [Act.put, jA, jB, jC]
    refine wpAnyD_one (i := 7) (by kernel_rfl) rfl (fun K hK => ?_)
    go_simp
    (with_reducible refine (rhomes_any p.env r _ _ _ (HEV.out.below (HBw.out.trans (HBd.out.mono HBw.out.size)) (Nat.le_refl _)) (HRV.out.below (HBw.out.trans (HBd.out.mono HBw.out.size)) (Nat.le_refl _))).mono ?_)
    rintro en w4 (⟨hnc, _⟩ | ⟨_, hbig, rfl, hb⟩ | ⟨_, P, hs, g, hP, hP2, hhl, hh0, rfl, hg, hk4, hb⟩)
    ·exact absurd HCP.out hnc
    ·as_aux_lemma =>
     have HB4 := Lib.hid (HBd.out.trans (hb.mono HBd.out.size))
     clear hb
     refine hK.out _ _ ⟨HB4.out, fun _ => trivial⟩ (fun hD => ?_)
     clear hK K
     try simp only [Act.put, jA, jB, jC]
     refine wpAnyD_take (i := 8) (v := ?vi08) rfl (by kernel_rfl) (by kernel_rfl) (by kernel_rfl) (fun _ _ _ h => h) rfl (Or.inl ⟨by rfl, ?hyi08⟩) hD (fun hD => ?_)
     case hyi08 => intro wT hSw; go_simp; (try with_reducible rfl)
     try simp only [Act.put, jA, jB, jC]
     refine wpAnyD_take (i := 9) (v := ?vi09) rfl (by kernel_rfl) (by kernel_rfl) (by kernel_rfl) (fun _ _ _ h => h) rfl (Or.inl ⟨by rfl, ?hyi09⟩) hD (fun hD => ?_)
     case hyi09 => intro wT hSw; go_simp; (try with_reducible rfl)
     try simp only [Act.put, jA, jB, jC]
     refine wpAnyD_take (i := 10) (v := ?vi010) rfl (by kernel_rfl) (by kernel_rfl) (by kernel_rfl) (fun _ _ _ h => h) rfl (Or.inl ⟨by rfl, ?hyi010⟩) hD (fun hD => ?_)
     case hyi010 => intro wT hSw; go_simp; (try with_reducible rfl)
     try simp only [Act.put, jA, jB, jC]
     refine wpAnyD_take (i := 11) (v := ?vi011) rfl (by kernel_rfl) (by kernel_rfl) (by kernel_rfl) (fun _ _ _ h => h) rfl (Or.inl ⟨by rfl, ?hyi011⟩) hD (fun hD => ?_)
     case hyi011 => intro wT hSw; go_simp; (try with_reducible rfl)
     try simp only [Act.put, jA, jB, jC]
     refine wpAnyD_take (i := 12) (v := ?vi012) rfl (by kernel_rfl) (by kernel_rfl) (by kernel_rfl) (fun _ _ _ h => h) rfl (Or.inl ⟨by rfl, ?hyi012⟩) hD (fun hD => ?_)
     case hyi012 => intro wT hSw; go_simp; (try with_reducible rfl)
     try simp only [Act.put, jA, jB, jC]
     refine wpAnyD_done (by kernel_rfl) ?_ _
     go_wp2_with fail
     go_meet
     exact ⟨_, _, _, _, rfl, rfl, Lib.hid ⟨HB4.out, .inl ⟨hbig, rfl⟩⟩⟩
    ·as_aux_lemma =>
     have HB4 := Lib.hid (HBd.out.trans (hb.mono HBd.out.size))
     have HHI := Lib.hid (show IR w4 (.slice (some ⟨g, 0, none⟩) P P) hs from IR.of (Blk.srcAll hk4 (by simp [i64s, hhl])) hhl)
     clear hk4
     clear hb
     refine hK.out _ _ ⟨HB4.out, fun _ => trivial⟩ (fun hD => ?_)
     clear hK K
     try simp only [Act.put, jA, jB, jC]
     refine wpAnyD_take (i := 8) (v := ?vi18) rfl (by kernel_rfl) (by kernel_rfl) (by kernel_rfl) (fun _ _ _ h => h) rfl (Or.inl ⟨by rfl, ?hyi18⟩) hD (fun hD => ?_)
     case hyi18 => intro wT hSw; go_simp; (try with_reducible rfl)
     try simp only [Act.put, jA, jB, jC]
     refine wpAnyD_take (i := 9) (v := ?vi19) rfl (by kernel_rfl) (by kernel_rfl) (by kernel_rfl) (fun _ _ _ h => h) rfl (Or.inl ⟨by rfl, ?hyi19⟩) hD (fun hD => ?_)
     case hyi19 => intro wT hSw; go_simp; (try with_reducible rfl)
     try simp only [Act.put, jA, jB, jC]
     refine wpAnyD_take (i := 10) (v := ?vi110) rfl (by kernel_rfl) (by kernel_rfl) (by kernel_rfl) (fun _ _ _ h => h) rfl (Or.inl ⟨by rfl, ?hyi110⟩) hD (fun hD => ?_)
     case hyi110 => intro wT hSw; go_simp; (try with_reducible rfl)
     try simp only [Act.put, jA, jB, jC]
     refine wpAnyD_take (i := 11) (v := ?vi111) rfl (by kernel_rfl) (by kernel_rfl) (by kernel_rfl) (fun _ _ _ h => h) rfl (Or.inl ⟨by rfl, ?hyi111⟩) hD (fun hD => ?_)
     case hyi111 => intro wT hSw; go_simp; (try with_reducible rfl)
     try simp only [Act.put, jA, jB, jC]
     refine wpAnyD_take (i := 12) (v := ?vi112) rfl (by kernel_rfl) (by kernel_rfl) (by kernel_rfl) (fun _ _ _ h => h) rfl (Or.inl ⟨by rfl, ?hyi112⟩) hD (fun hD => ?_)
     case hyi112 => intro wT hSw; go_simp; (try with_reducible rfl)
     try simp only [Act.put, jA, jB, jC]
     refine wpAnyD_done (by kernel_rfl) ?_ _
     go_wp2_with fail
     go_meet
     exact ⟨_, _, _, _, rfl, rfl, Lib.hid ⟨HB4.out, .inr ⟨rfl, P, hs, hP, hP2, hhl, hh0, HHI.out⟩⟩⟩
   case rest =>
    as_aux_lemma =>
    obtain ⟨w4, rfl⟩ : ∃ w4 : World, w4 = wc := ⟨_, rfl⟩
    obtain ⟨A, nh, ch, x, rfl, rfl, HU⟩ := hcut
    obtain ⟨hb4, hx⟩ := HU.out
    have HB4 := Lib.hid hb4
    have hgw : gb ≤ wr.heap.size := by have := HLS.out; omega
    have HBG4 := Lib.hid (HBB.out.trans (hb4.mono hgw))
    rcases hx with ⟨hbig, rfl⟩ | ⟨rfl, P, hs, hP, hP2, hhl, hh0, hhi⟩
    ·have HBG := Lib.hid hbig
     have HKZ5 := Lib.hid (HKZ.out.below hb4 HKZ.out.lt)
     have HB5 := Lib.hid (HBw.out.trans (hb4.mono HBw.out.size))
     clear hb4 hbig
     go_upto_region 9 with fail
     clear t1 t2 hk hkn hn64 ye
     obtain ⟨z0, z1, z2, z3, z4, z5⟩ := blk6 HKZ5.out
     have f0 := frz HKZ5.out 0
     have f1 := frz HKZ5.out 1
     have f2 := frz HKZ5.out 2
     have f3 := frz HKZ5.out 3
     have f4 := frz HKZ5.out 4
     have f5 := frz HKZ5.out 5
     have yz := Blk.lt HKZ5.out
     have HKF := Lib.hid (blk_all6 HKZ5.out (.slice none 0 0) (.int .i64 0) (.slice none 0 0) (.slice none 0 0) (.bool false) (.slice none 0 0))
     have HBF := Lib.hid (below6 HB5.out (show w.heap.size ≤ sz + 1 by have := HSZ.out; omega) (.slice none 0 0) (.int .i64 0) (.slice none 0 0) (.slice none 0 0) (.bool false) (.slice none 0 0))
     go_wp2_with fail
     refine bodyPost_ret (rrows_results _ _ (sz + 1) _ _ _ _ _ _ _ rfl rfl HKF.out) rfl ?_
     exact ⟨_, _, _, _, _, _, _, _, _, _, _, _, _, _, _, rfl, .inr (.inl ⟨HPP.out, ⟨r, List.mem_of_getElem? HCK.out, HBG.out⟩, rfl⟩), HBF.out⟩
    ·have HHI := Lib.hid hhi
     have HHL := Lib.hid hhl
     have HPE := Lib.hid hP
     have hnh : nh = hs.length := hhi.len
     have HLN := Lib.hid (row_lens HCP.out)
     have HPI := Lib.hid (show ∀ x ∈ r.params, 0 ≤ x ∧ x < hs.length from fun x hx => by have h1 := within_mem HCP.out.pin hx; omega)
     have HCI := Lib.hid (show ∀ c ∈ r.code, (∀ x ∈ c.args, 0 ≤ x ∧ x < hs.length) ∧ (∀ x ∈ c.outs, 0 ≤ x ∧ x < hs.length) ∧ c.args.length ≤ 100 ∧ c.outs.length ≤ 100 ∧ c.to.length ≤ 100 from fun c hcm => by
      have h1 := codeOk_places (HCP.out.code c hcm)
      exact ⟨fun x hx => by have := h1.1 x hx; omega, fun x hx => by have := h1.2.1 x hx; omega, (row_lens HCP.out).2.2.2.2 c hcm⟩)
     have HHO := Lib.hid hh0
     have HKB4 := Lib.hid (HKB.out.below hb4 HKB.out.lt)
     have HOF4 := Lib.hid (own_below HOF.out hb4 (Nat.le_refl _))
     have hfx := (blk6 HKB4.out).2.2.2.2.2
     have hgl : gb < w4.heap.size := HKB4.out.lt
     have HGL := Lib.hid hgl
     have HSZ4 := Lib.hid (show wL.heap.size ≤ w4.heap.size by have := hb4.size; omega)
     clear hb4 hhi hhl hP hh0 hnh hgl
     go_wp2_with fail
     clear t1 hk hkn
     refine wp_region_D (fun w' => Below gb wL w') (fun w' => w'.cell? ⟨gb, 5, none⟩ = some (.slice Af k cf)) 10 (by kernel_rfl) (below_drewN HBG4.out 1) hfx (fun hD => ?_)
     have HBd := Lib.hid (drew_below w4)
     refine wpAnyD_take (i := 0) (v := ?vt0) rfl (by kernel_rfl) (by kernel_rfl) (by kernel_rfl) (fun _ _ _ h => h) rfl (Or.inl ⟨by rfl, ?hyt0⟩) hD (fun hD => ?_)
     case hyt0 => intro wT hSw; go_simp; (try with_reducible rfl)
     try simp only [Act.put, jA, jB, jC]
     refine wpAnyD_take2 (i := 1) (v := ?vt1) rfl (by kernel_rfl) (by kernel_rfl) (by kernel_rfl) (fun _ _ _ h => h) rfl (by kernel_rfl) (by kernel_rfl) (Or.inl ⟨by rfl, ?hyt1⟩) hD (fun hD => ?_)
     case hyt1 => intro wT hSw; have c5 := hSw.2; go_simp; (try with_reducible rfl)
     try simp only [Act.put, jA, jB, jC]
     refine wpAnyD_take (i := 2) (v := ?vt2) rfl (by kernel_rfl) (by kernel_rfl) (by kernel_rfl) (fun _ _ _ h => h) rfl (Or.inl ⟨by rfl, ?hyt2⟩) hD (fun hD => ?_)
     case hyt2 => intro wT hSw; obtain ⟨e5, g0, g1, g2, g3, g4⟩ := HF.out _ (hSw); obtain ⟨e0, e1, e2, e3, e4⟩ := HF2.out _ (hSw); go_simp; (try with_reducible rfl)
     try simp only [Act.put, jA, jB, jC]
     refine wpAnyD_take (i := 3) (v := ?vt3) rfl (by kernel_rfl) (by kernel_rfl) (by kernel_rfl) (fun _ _ _ h => h) rfl (Or.inl ⟨by rfl, ?hyt3⟩) hD (fun hD => ?_)
     case hyt3 => intro wT hSw; obtain ⟨e5, g0, g1, g2, g3, g4⟩ := HF.out _ (hSw); obtain ⟨e0, e1, e2, e3, e4⟩ := HF2.out _ (hSw); go_simp; (try with_reducible rfl)
     try simp only [Act.put, jA, jB, jC]
     refine wpAnyD_take (i := 4) (v := ?vt4) rfl (by kernel_rfl) (by kernel_rfl) (by kernel_rfl) (fun _ _ _ h => h) rfl (Or.inl ⟨by rfl, ?hyt4⟩) hD (fun hD => ?_)
     case hyt4 => intro wT hSw; obtain ⟨e5, g0, g1, g2, g3, g4⟩ := HF.out _ (hSw); obtain ⟨e0, e1, e2, e3, e4⟩ := HF2.out _ (hSw); go_simp; (try with_reducible rfl)
     try simp only [Act.put, jA, jB, jC]
     refine wpAnyD_take (i := 5) (v := ?vt5) rfl (by kernel_rfl) (by kernel_rfl) (by kernel_rfl) (fun _ _ _ h => h) rfl (Or.inl ⟨by rfl, ?hyt5⟩) hD (fun hD => ?_)
     case hyt5 => intro wT hSw; obtain ⟨e5, g0, g1, g2, g3, g4⟩ := HF.out _ (hSw); obtain ⟨e0, e1, e2, e3, e4⟩ := HF2.out _ (hSw); go_simp; (try with_reducible rfl)
     try simp only [Act.put, jA, jB, jC]
     refine wpAnyD_take (i := 6) (v := ?vt6) rfl (by kernel_rfl) (by kernel_rfl) (by kernel_rfl) (fun _ _ _ h => h) rfl (Or.inl ⟨by rfl, ?hyt6⟩) hD (fun hD => ?_)
     case hyt6 => intro wT hSw; obtain ⟨e5, g0, g1, g2, g3, g4⟩ := HF.out _ (hSw); obtain ⟨e0, e1, e2, e3, e4⟩ := HF2.out _ (hSw); go_simp; (try with_reducible rfl)
     try simp only [Act.put, jA, jB, jC]
     refine wpAnyD_take (i := 7) (v := ?vt7) rfl (by kernel_rfl) (by kernel_rfl) (by kernel_rfl) (fun _ _ _ h => h) rfl (Or.inl ⟨by rfl, ?hyt7⟩) hD (fun hD => ?_)
     case hyt7 => intro wT hSw; obtain ⟨e5, g0, g1, g2, g3, g4⟩ := HF.out _ (hSw); obtain ⟨e0, e1, e2, e3, e4⟩ := HF2.out _ (hSw); go_simp; (try with_reducible rfl)
     try simp only [Act.put, jA, jB, jC]
     refine wpAnyD_one (i := 8) (by kernel_rfl) rfl (fun K hK => ?_)
     go_simp
     (with_reducible refine (rtold_any r hs P _ _ _ _ _ _ (HRV.out.below (HBw.out.trans ((HB4.out.trans (HBd.out.mono HB4.out.size)).mono HBw.out.size)) (Nat.le_refl _)) (HHI.out.below HBd.out (Nat.le_refl _)) HHL.out (by omega) HHO.out HLN.out.2.2.2.1 (by have := HLN.out; omega) HPI.out HCI.out).mono ?_)
     rintro en w5 ⟨pT, dT, rfl, oT, cT, hb⟩
     have HB5 := Lib.hid (HBd.out.trans (hb.mono HBd.out.size))
     obtain ⟨AT, ctT, rfl, _⟩ := own_shape oT
     obtain ⟨vsT, rT⟩ := cT.row
     rw [List.length_map] at rT
     obtain ⟨BT, cdT, rfl, _⟩ := own_shape rT
     have HG5 := Lib.hid (HBG4.out.trans (HB5.out.mono (by have := HGL.out; omega)))
     have HK5 := Lib.hid (HKB4.out.below HB5.out HKB4.out.lt)
     have HO5 := Lib.hid (own_below HOF4.out HB5.out (Nat.le_refl _))
     clear oT cT rT hb
     refine hK.out _ _ ⟨HG5.out, fun _ => (blk6 HK5.out).2.2.2.2.2⟩ (fun hD => ?_)
     clear hK K
     try simp only [Act.put, jA, jB, jC]
     refine wpAnyD_one (i := 9) (by kernel_rfl) rfl (fun K hK => ?_)
     refine step_row rfl (.tmp 45) rfl (v0 := .slice A0 r.sig.inn.length c0) (v1 := .slice A1 r.sig.out.length c1) (v2 := .int .i64 (topOf hs)) (v3 := .slice AT r.params.length ctT) (v4 := .slice BT r.code.length cdT) rfl ?_
     have hal := (Below.refl w5.heap.size w5).alloc (Nat.le_refl _) (.cells #[.slice A0 r.sig.inn.length c0, .slice A1 r.sig.out.length c1, .int .i64 (topOf hs), .slice AT r.params.length ctT, .slice BT r.code.length cdT] 31)
     have HG6 := Lib.hid (HG5.out.trans (hal.mono (by have := HB5.out.size; have := HGL.out; omega)))
     have HK6 := Lib.hid (HK5.out.below hal HK5.out.lt)
     have HO6 := Lib.hid (own_below HO5.out hal (Nat.le_refl _))
     have HS6 := Lib.hid (show wL.heap.size ≤ w5.heap.size by have := HB5.out.size; have := HSZ4.out; omega)
     have HS7 := Lib.hid hal.size
     clear hal
     refine hK.out _ _ ⟨HG6.out, fun _ => (blk6 HK6.out).2.2.2.2.2⟩ (fun hD => ?_)
     clear hK K
     try simp only [Act.put, jA, jB, jC]
     refine wpAnyD_one (i := 10) (by kernel_rfl) rfl (fun K hK => ?_)
     refine step_append_lies _ (by rfl) (.tmp 38) (.tmp 46) 50 (by rfl) wL.heap.size 31 ic _ 5 104 Tryz.underlying50 hic hz0 hz1 hz2 (by rfl) (by omega) (.slice Af k cf) k xs (by go_simp) HO6.out ⟨w5.heap.size, 0, none⟩ 1 1 [.slice A0 r.sig.inn.length c0, .slice A1 r.sig.out.length c1, .int .i64 (topOf hs), .slice AT r.params.length ctT, .slice BT r.code.length cdT] (by go_simp) (by rfl) (World.news_of_block (cs := #[.slice A0 r.sig.inn.length c0, .slice A1 r.sig.out.length c1, .int .i64 (topOf hs), .slice AT r.params.length ctT, .slice BT r.code.length cdT]) (t := 31) (fr := (0, 0)) (Blk.newAt _ _ _ rfl)) (one5 _ _ _ _ _ rfl rfl rfl rfl rfl) (by omega) (by unfold maxLen; omega) (by omega) (by have := HS6.out; have := HS7.out; omega) _ rfl ?_
     intro gg cap w9 hown hgr hat hlt
     have kb9 := HK6.out.grown hgr (own_ne HO6.out HK6.out (by decide))
     have d5 := (blk6 kb9).2.2.2.2.2
     have fr5 := frz kb9 5
     have y9 := Blk.lt kb9
     have HG9 := Lib.hid (below_grown HG6.out hgr (by have := HS6.out; have := HS7.out; have := HLS.out; omega) (fun j hj => by have := (HO6.out.lt j hj).1; have := HLS.out; omega))
     have HFN := Lib.hid (RsS.push HK6.out HO6.out HG6.out (by have := HLS.out; omega) (by have := HS6.out; have := HS7.out; omega) hown hgr)
     clear hown hgr hat kb9
     refine hK.out _ _ (SD.after HG9.out (by kernel_rfl)) (fun hD => ?_)
     clear hK K
     try simp only [Act.put, jA, jB, jC]
     refine wpAnyD_take (i := 11) (v := ?vu11) rfl (by kernel_rfl) (by kernel_rfl) (by kernel_rfl) (fun _ _ _ h => h) rfl (Or.inl ⟨by rfl, ?hyu11⟩) hD (fun hD => ?_)
     case hyu11 => intro wT hSw; go_simp; (try with_reducible rfl)
     try simp only [Act.put, jA, jB, jC]
     refine wpAnyD_one (i := 12) (by kernel_rfl) rfl (fun K hK => ?_)
     go_simp
     refine hK.out _ _ (SD.after (HG9.out.setCell (p := ⟨gb, 5, none⟩) (Nat.le_refl _) _) (by kernel_rfl)) (fun hD => ?_)
     clear hK K
     try simp only [Act.put, jA, jB, jC]
     refine wpAnyD_done (by kernel_rfl) ?_ _
     go_wp2_with fail
     with_reducible exact ⟨⟨k + 1, by omega, by simp, Lib.hid ⟨HFN.out, fun j q hj hq => by
      rcases Nat.lt_succ_iff_lt_or_eq.1 hj with hj | rfl
      ·exact hall j q hj hq
      ·rw [HCK.out] at hq
       injection hq with hq
       subst hq
       have := HPE.out
       omega⟩⟩, by simp [intOf]; omega⟩
  ·have t1 : decide ((k : Int) < n) = false := by simp; omega
   have hkn2 : k = n := by omega
   subst hkn2
   obtain ⟨b0, b1, b2, b3, b4, b5⟩ := blk6 kb
   have yb := Blk.lt kb
   obtain ⟨z0, z1, z2, z3, z4, z5⟩ := blk6 KZr
   have f0 := frz KZr 0
   have f1 := frz KZr 1
   have f2 := frz KZr 2
   have f3 := frz KZr 3
   have f4 := frz KZr 4
   have f5 := frz KZr 5
   have yz := Blk.lt KZr
   have HKF := Lib.hid (blk_all6 KZr (.slice sA LS sc) (.int .i64 im) (.slice bA LG bc) (.slice dA LM dc) (.bool mm) (.slice Af k cf))
   have HBF := Lib.hid (below6 HBw.out (show w.heap.size ≤ sz + 1 by have := HSZ.out; omega) (.slice sA LS sc) (.int .i64 im) (.slice bA LG bc) (.slice dA LM dc) (.bool mm) (.slice Af k cf))
   have HAL := Lib.hid (show ∀ r ∈ p.fns, r.places ≤ 2032 from fun r hr => by
    obtain ⟨j, hj⟩ := List.mem_iff_getElem?.1 hr
    exact hall j r (by have := (List.getElem?_eq_some_iff.1 hj).1; have := HN.out; omega) hj)
   clear kb of hb hall IU KZr KEr
   go_upto_region 11 with fail
   clear t1 hk hkn hn64 e0 e1 e2 e3 e4 e5 ye
   go_wp2_with fail
   refine bodyPost_ret (rrows_results _ _ (sz + 1) _ _ _ _ _ _ _ rfl rfl HKF.out) rfl ?_
   exact ⟨_, _, _, _, _, _, _, _, _, _, _, _, _, _, _, rfl, .inr (.inr ⟨HPP.out, HAL.out, rfl⟩), HBF.out⟩
end Go.Proofs.YtgmapikcpnffhaaGreat
