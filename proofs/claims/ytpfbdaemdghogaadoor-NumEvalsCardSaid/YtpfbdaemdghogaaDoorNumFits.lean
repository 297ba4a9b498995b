/-
  NumFits: what the statement's function answers.
  Conditions: the library's two tables hold what their initialisers lay; the slice is within the row's own reach.
-/
import Derived.Test.YtpfbdaemdghogaaDoorNumFit
namespace Go.Proofs.YtpfbdaemdghogaaDoor
open Go.RowKit Go.Bk Go.Bk.Num
set_option linter.unusedVariables false
set_option linter.unusedSimpArgs false

/-- a row of numbers of 64 bits that came in -/
theorem rowIn64 {w : World} {a : Option Addr} {len cap : Nat} {zs : List Int} (h : RowIn .u64 w a len cap zs) : ∃ l : List Nat, Bk.Src w a len (u64V l) ∧ All64 l ∧ l.length = len ∧ len ≤ cap := by
  obtain ⟨h1, h2, h3, h4⟩ := h.src
  have hz : ∀ n ∈ zs, 0 ≤ n ∧ n < 18446744073709551616 := fun n hn => u64_bounds (h4 n hn)
  have e : u64V ((zs.take len).map Int.toNat) = (zs.take len).map (Value.int .u64) := by
    unfold u64V
    rw [List.map_map]
    refine List.map_congr_left fun n hn => ?_
    have := hz n (List.mem_of_mem_take hn)
    simp
    omega
  refine ⟨(zs.take len).map Int.toNat, by rw [e]; exact h1, ?_, ?_, h2⟩
  · intro c hc
    obtain ⟨n, hn, rfl⟩ := List.mem_map.1 hc
    have := hz n (List.mem_of_mem_take hn)
    omega
  · have := h1.1
    simpa using this

set_option maxRecDepth 100000 in
set_option maxHeartbeats 2000000 in
theorem NumFits_true (w : World) (hT : Tabs w) (op : Int) (hop : (Lit.int .i64 op).wf = true) (A : Option Addr) (n cp : Nat) (zs : List Int) (hz : RowIn .u64 w A n cp zs) (hreach : cp * Tryd.prog.bytesOf 23 ≤ reachBytes) :
    Calls Tryd.prog 7 #[.int .i64 op, .slice A n cp] w fun e w' => e = .returned (.bool true) ∧ Below w.heap.size w w' := by
  obtain ⟨ho1, ho2⟩ := i64_bounds hop
  obtain ⟨l, hs, h64, hl, _⟩ := rowIn64 hz
  have HS := Lib.hid hs
  have H64 := Lib.hid h64
  have HT := Lib.hid hT
  obtain ⟨E, hE⟩ : ∃ E, evalV op l = E := ⟨_, rfl⟩
  obtain ⟨v, er⟩ := E
  obtain ⟨L, hL⟩ : ∃ L, (sigL op).length = L := ⟨_, rfl⟩
  obtain ⟨O, hO⟩ : ∃ O, sigO op = O := ⟨_, rfl⟩
  have HE := Lib.hid hE
  have HL := Lib.hid hL
  have HO := Lib.hid hO
  cases hg : grpOf op with
  | none =>
    have HI := Lib.hid (show (grpOf op).isSome = false by simp [hg])
    have he : er = 1 := by have : evalV op l = (0, 1) := by simp [evalV, hg]
                           rw [hE] at this; injection this
    have g1 : (er == 1) = true := by simp [he]
    clear hs h64 hT hE hL hO hg he hz hreach hop hl
    go_enter Tryd.func7, Tryd.ntmps7
    go_wp2_with fail
    refine (Eval_any op A n cp l _ ho1 ho2 HS.out H64.out HT.out).mono ?_
    rintro e w1 ⟨rfl, hb1⟩
    rw [HE.out]
    have HB1 := Lib.hid hb1
    clear hb1
    go_wp2_with fail
    refine (Sig_any op _ ho1 ho2).mono ?_
    rintro e w2 ⟨A2, c2, rfl, ho2', hb2⟩
    rw [HO.out, HI.out, HL.out]
    have HB2 := Lib.hid (HB1.out.trans (hb2.mono HB1.out.size))
    clear hb2 ho2'
    have HBZ := HB2
    have HTZ := Lib.hid (HT.out.below HB2.out HT.out.2.2)
    go_wp2_with fail
    refine (alive_any _ HTZ.out).mono ?_
    rintro e w5 ⟨rfl, hb5⟩
    have HB5 := Lib.hid (HBZ.out.trans (hb5.mono HBZ.out.size))
    clear hb5
    go_wp2
    go_ret
    exact ⟨rfl, HB5.out⟩
  | some g =>
    obtain ⟨a, b, c, d⟩ := g
    have HI := Lib.hid (show (grpOf op).isSome = true by simp [hg])
    by_cases hne : L = n
    · have q1 : ((L : Int) != (n : Int)) = false := by simp [hne]
      have hev : er = 1 ∨ (er = 0 ∧ In64 v ∧ (O = 127 → In32 v)) ∨ (er ≠ 0 ∧ totB op = false) := by
        have hh : evalV op l = if (sigL op).length = l.length ∧ l.all (fitsN d) = true then kindV c d (op - a) (sigO op) l else (0, 1) := by simp only [evalV, hg]
        rw [hE] at hh
        by_cases hf : (sigL op).length = l.length ∧ l.all (fitsN d) = true
        · rw [if_pos hf] at hh
          obtain ⟨k1, k2, k3⟩ := kind_rng hg h64 hf.2
          rw [← hh, hO] at *
          rcases k3 with h | h
          · exact .inr (.inl ⟨h, k1, k2⟩)
          · by_cases h0 : er = 0
            · exact .inr (.inl ⟨h0, k1, k2⟩)
            · exact .inr (.inr ⟨h0, h.2⟩)
        · rw [if_neg hf] at hh
          injection hh with _ hh
          exact .inl hh
      have hev2 : ((er != 0) = true ∧ (er == 1) = true) ∨ ((er != 0) = true ∧ (er == 1) = false ∧ totB op = false) ∨ ((er != 0) = false ∧ In64 v ∧ (O = 127 → In32 v)) := by
        by_cases h1 : er = 1
        · exact .inl ⟨by simp [h1], by simp [h1]⟩
        · rcases hev with h | h | h
          · exact absurd h h1
          · exact .inr (.inr ⟨by simp [h.1], h.2.1, h.2.2⟩)
          · exact .inr (.inl ⟨by simp [h.1], by simp [h1], h.2⟩)
      have hOO : O = 126 ∨ O = 127 := by
        obtain ⟨_, hd, _⟩ := grp_kind hg
        rw [← hO]; simp only [sigO, hg]; repeat' split
        all_goals omega
      clear hs h64 hT hE hL hO hg hz hreach hop hl hne hev
      rcases hev2 with ⟨g1, g2⟩ | ⟨g1, g2, g3⟩ | ⟨g1, g2, g3⟩
      · skip
        go_enter Tryd.func7, Tryd.ntmps7
        go_wp2_with fail
        refine (Eval_any op A n cp l _ ho1 ho2 HS.out H64.out HT.out).mono ?_
        rintro e w1 ⟨rfl, hb1⟩
        rw [HE.out]
        have HB1 := Lib.hid hb1
        clear hb1
        go_wp2_with fail
        refine (Sig_any op _ ho1 ho2).mono ?_
        rintro e w2 ⟨A2, c2, rfl, ho2', hb2⟩
        rw [HO.out, HI.out, HL.out]
        have HB2 := Lib.hid (HB1.out.trans (hb2.mono HB1.out.size))
        clear hb2 ho2'
        have HBZ := HB2
        have HTZ := Lib.hid (HT.out.below HB2.out HT.out.2.2)
        go_wp2_with fail
        refine (alive_any _ HTZ.out).mono ?_
        rintro e w5 ⟨rfl, hb5⟩
        have HB5 := Lib.hid (HBZ.out.trans (hb5.mono HBZ.out.size))
        clear hb5
        go_wp2
        go_ret
        exact ⟨rfl, HB5.out⟩
      · have HG := Lib.hid g3
        clear g3
        go_enter Tryd.func7, Tryd.ntmps7
        go_wp2_with fail
        refine (Eval_any op A n cp l _ ho1 ho2 HS.out H64.out HT.out).mono ?_
        rintro e w1 ⟨rfl, hb1⟩
        rw [HE.out]
        have HB1 := Lib.hid hb1
        clear hb1
        go_wp2_with fail
        refine (Sig_any op _ ho1 ho2).mono ?_
        rintro e w2 ⟨A2, c2, rfl, ho2', hb2⟩
        rw [HO.out, HI.out, HL.out]
        have HB2 := Lib.hid (HB1.out.trans (hb2.mono HB1.out.size))
        clear hb2 ho2'
        go_wp2_with fail
        refine (Total_any op _ ho1 ho2).mono ?_
        rintro e w3 ⟨rfl, hb3⟩
        rw [HG.out]
        have HBZ := Lib.hid (HB2.out.trans (hb3.mono HB2.out.size))
        clear hb3
        have HTZ := Lib.hid (HT.out.below HBZ.out HT.out.2.2)
        go_wp2_with fail
        refine (alive_any _ HTZ.out).mono ?_
        rintro e w5 ⟨rfl, hb5⟩
        have HB5 := Lib.hid (HBZ.out.trans (hb5.mono HBZ.out.size))
        clear hb5
        go_wp2
        go_ret
        exact ⟨rfl, HB5.out⟩
      · obtain ⟨vn, rfl⟩ := Int.eq_ofNat_of_zero_le g2.1
        have hvn : vn < 18446744073709551616 := by have := g2.2; omega
        have HF := Lib.hid (show fitsN O vn = true by
          rcases hOO with rfl | rfl
          · exact fits126 _
          · exact fits127 (by have := (g3 rfl).2; omega))
        clear g2 g3 hOO
        go_enter Tryd.func7, Tryd.ntmps7
        go_wp2_with fail
        refine (Eval_any op A n cp l _ ho1 ho2 HS.out H64.out HT.out).mono ?_
        rintro e w1 ⟨rfl, hb1⟩
        rw [HE.out]
        have HB1 := Lib.hid hb1
        clear hb1
        go_wp2_with fail
        refine (Sig_any op _ ho1 ho2).mono ?_
        rintro e w2 ⟨A2, c2, rfl, ho2', hb2⟩
        rw [HO.out, HI.out, HL.out]
        have HB2 := Lib.hid (HB1.out.trans (hb2.mono HB1.out.size))
        clear hb2 ho2'
        go_wp2_with fail
        refine (Fits_any O vn _ hvn).mono ?_
        rintro e w3 ⟨rfl, rfl⟩
        rw [HF.out]
        have HBZ := HB2
        have HTZ := Lib.hid (HT.out.below HBZ.out HT.out.2.2)
        go_wp2_with fail
        refine (alive_any _ HTZ.out).mono ?_
        rintro e w5 ⟨rfl, hb5⟩
        have HB5 := Lib.hid (HBZ.out.trans (hb5.mono HBZ.out.size))
        clear hb5
        go_wp2
        go_ret
        exact ⟨rfl, HB5.out⟩
    · have q1 : ((L : Int) != (n : Int)) = true := by simp; omega
      have he : er = 1 := by
        have : evalV op l = (0, 1) := by simp [evalV, hg, hL, hl, hne]
        rw [hE] at this; injection this
      have g1 : (er == 1) = true := by simp [he]
      clear hs h64 hT hE hL hO hg he hz hreach hop hl hne
      go_enter Tryd.func7, Tryd.ntmps7
      go_wp2_with fail
      refine (Eval_any op A n cp l _ ho1 ho2 HS.out H64.out HT.out).mono ?_
      rintro e w1 ⟨rfl, hb1⟩
      rw [HE.out]
      have HB1 := Lib.hid hb1
      clear hb1
      go_wp2_with fail
      refine (Sig_any op _ ho1 ho2).mono ?_
      rintro e w2 ⟨A2, c2, rfl, ho2', hb2⟩
      rw [HO.out, HI.out, HL.out]
      have HB2 := Lib.hid (HB1.out.trans (hb2.mono HB1.out.size))
      clear hb2 ho2'
      have HBZ := HB2
      have HTZ := Lib.hid (HT.out.below HB2.out HT.out.2.2)
      go_wp2_with fail
      refine (alive_any _ HTZ.out).mono ?_
      rintro e w5 ⟨rfl, hb5⟩
      have HB5 := Lib.hid (HBZ.out.trans (hb5.mono HBZ.out.size))
      clear hb5
      go_wp2
      go_ret
      exact ⟨rfl, HB5.out⟩
end Go.Proofs.YtpfbdaemdghogaaDoor
