/-
  MovesOwn: what the statement's function answers.
  Conditions: the rows are within the row's own reach.
-/
import Derived.Test.YtbnfhcdodejmhaaMovLaw2
namespace Go.Proofs.Ytbnfhcdodejmhaa
open Go.RowKit Go.Bk Go.Bk.Mov
set_option linter.unusedVariables false
set_option linter.unusedSimpArgs false

/-- some row of the call's own -/
def SomeRow (e : TypeId) (size base n c : Nat) (A : Option Addr) (w : World) : Prop := ∃ xs, w.ownsRow base e size (.slice A n c) n xs
theorem SomeRow.set {e : TypeId} {size base n c g k : Nat} {w : World} (h : SomeRow e size base n c (some ⟨g, 0, none⟩) w) (v : Value) : SomeRow e size base n c (some ⟨g, 0, none⟩) (w.setCell ⟨g, k, none⟩ v) := by
  obtain ⟨xs, hx⟩ := h
  exact ⟨_, (hx.stored k v).1⟩
theorem SomeRow.cell {e : TypeId} {size base n c g k : Nat} {w : World} (h : SomeRow e size base n c (some ⟨g, 0, none⟩) w) (hk : k < n * size) : (∃ v, w.cell? ⟨g, k, none⟩ = some v) ∧ w.frozen? ⟨g, k, none⟩ = false := by
  obtain ⟨xs, hx⟩ := h
  refine ⟨?_, ?_⟩
  · have := hx.cells (g := g) rfl k _ (List.getElem?_eq_getElem (by rw [hx.1]; exact hk))
    rw [Addr.add_lit, Nat.zero_add] at this
    exact ⟨_, this⟩
  · rcases hx.2 with ⟨h1, _⟩ | ⟨g', cap, cur, h1, _, hg, _⟩
    · cases h1
    · injection h1 with h1 h2 h3
      injection h1 with h1
      injection h1 with h1
      subst h1
      exact frozen_of_row w g k _ _ hg
theorem SomeRow.at {e : TypeId} {size base n c : Nat} {A : Option Addr} {w : World} (h : SomeRow e size base n c A w) (hn : 0 < n) : ∃ g, A = some ⟨g, 0, none⟩ ∧ base ≤ g ∧ g < w.heap.size := by
  obtain ⟨xs, hx⟩ := h
  rcases hx.2 with ⟨_, h⟩ | ⟨g', cap', cur, h1, hb, h2, _⟩
  · omega
  · injection h1 with h1
    exact ⟨g', h1, hb, (Array.getElem?_eq_some_iff.1 h2).1⟩

set_option maxRecDepth 100000 in
set_option maxHeartbeats 8000000 in
theorem MovesOwn_true (w : World) (A : Option Addr) (n c : Nat) (l : List Mv) (hs : MvIn w A n c l) (hr : c * Try.prog.bytesOf 38 ≤ reachBytes) (spare : Int) (hsp : (Lit.int .i64 spare).wf = true)
    (B : Option Addr) (m d : Nat) (zs : List Int) (hz : RowIn .u64 w B m d zs) (hr2 : d * Try.prog.bytesOf 34 ≤ reachBytes) :
    Calls Try.prog 9 #[.slice A n c, .int .i64 spare, .slice B m d] w fun e w' => e = .returned (.bool true) ∧ Below w.heap.size w w' := by
  have hn := mv_bound hs hr
  have hl := hs.len
  obtain ⟨h, hh, _, hhl, hm, hB⟩ := rowInW hz hr2
  have HS := Lib.hid hs.1
  have HL := Lib.hid hl
  have HH := Lib.hid hh
  have HHL := Lib.hid hhl
  have HBN := Lib.hid hB
  have HD := Lib.hid (show (doL l h).length = m by rw [doL_len]; exact hhl)
  clear hs hr hsp hl hz hr2 hh hB hhl
  go_enter Try.func9, Try.ntmps9
  go_wp2_with (at_builtin; refine append_at _ rfl _ (.tmp 16) 22 rfl w.heap.size 38 (.agg #[.int .i64 0, .int .i64 0]) 2 16 Try.underlying22 info_move rfl (by omega) (.slice none 0 0) 0 [] rfl (World.ownsRow_nil _ _ _ _) A n c (mvV l) rfl HS.out (mvV_one l) (by unfold maxLen; omega) (by omega) (Nat.le_refl _) ?_)
  rintro v0 w0 ho0 hg0 _ _
  obtain ⟨A0, c0, hv0, _⟩ := own_shape ho0
  subst hv0
  have HB0 := Lib.hid (show Below w.heap.size w w0 from below_grown (Below.refl _ _) hg0 (Nat.le_refl _) (fun k hk => by simp [Value.ownBlock] at hk))
  have HW0 := Lib.hid (src_mv ho0)
  have hz0 := HB0.out.size
  clear ho0 hg0
  go_wp2_with fail
  refine (Row_any A n c l spare _ (HS.out.below HB0.out (Nat.le_refl _)) (by omega)).mono ?_
  intro e w1 hpost
  obtain ⟨A1, k1, c1, er, he, hrow1, hb1, her⟩ : ∃ A1 k1 c1 er, e = .returned (.tuple #[.slice A1 k1 c1, .int .i64 er]) ∧ SomeRow 38 2 w0.heap.size k1 c1 A1 w1 ∧ Below w0.heap.size w0 w1 ∧ ((fitsB l spare = false ∧ er = 1) ∨ (fitsB l spare = true ∧ er = 0)) := by
    rcases hpost with ⟨hf, rfl, hb1⟩ | ⟨hf, kk, A1, c1, rfl, ho1, hk, hb1⟩
    · exact ⟨none, 0, 0, 1, rfl, ⟨[], World.ownsRow_nil _ _ _ _⟩, hb1, .inl ⟨hf, rfl⟩⟩
    · exact ⟨A1, kk.length, c1, 0, rfl, ⟨_, ho1⟩, hb1, .inr ⟨hf, rfl⟩⟩
  subst he
  have hk1 : k1 ≤ 9223372036854775807 := by obtain ⟨xs, hx⟩ := hrow1; exact own_max hx
  have HR1 := Lib.hid hrow1
  have HB1 := Lib.hid hb1
  have HER := Lib.hid her
  clear hpost hrow1 hb1 her
  go_wp2
  go_loopw [26] (fun i wr => ∃ k : Nat, k ≤ k1 ∧ i = .int .i64 k ∧ Hid (SomeRow 38 2 w0.heap.size k1 c1 A1 wr) ∧ Hid (Below w0.heap.size w0 wr)) (fun i _ => k1 - (intOf i).toNat)
  case atStart => exact ⟨0, by omega, rfl, HR1, HB1⟩
  case round =>
    obtain ⟨wo, rfl⟩ : ∃ wo : World, wo = wr := ⟨_, rfl⟩
    obtain ⟨k, hk, rfl, IR, IB⟩ := hrel
    clear HR1 HB1
    by_cases hlt : k < k1
    · have hlt' : decide ((k : Int) < k1) = true := by simp; omega
      have hlt2 : (k : Int) < k1 := by omega
      obtain ⟨g, rfl, hgb, hgl⟩ := IR.out.at (by omega)
      obtain ⟨⟨x0, q0⟩, q1⟩ := IR.out.cell (k := k * 2) (by omega)
      obtain ⟨⟨x1, q2⟩, q3⟩ := IR.out.cell (k := k * 2 + 1) (by omega)
      go_wp2
      exact ⟨⟨k + 1, by omega, by simp, Lib.hid ((IR.out.set _).set _), Lib.hid ((IB.out.setCell (p := ⟨g, k * 2, none⟩) hgb _).setCell (p := ⟨g, k * 2 + 1, none⟩) hgb _)⟩, by simp [intOf]; omega⟩
    · have hlt' : decide ((k : Int) < k1) = false := by simp; omega
      have HBX := Lib.hid (HB0.out.trans (IB.out.mono HB0.out.size))
      go_wp2_with fail
      refine (Do_any A B n c m d l h _ (HS.out.below HBX.out (Nat.le_refl _)) (by omega) (HH.out.below HBX.out (Nat.le_refl _)) HBN.out (by omega)).mono ?_
      rintro e w2 ⟨A2, c2, rfl, ho2, hb2⟩
      rw [HD.out] at ho2 ⊢
      have HR2 := Lib.hid (show SomeRow 34 1 wo.heap.size m c2 A2 w2 from ⟨_, ho2⟩)
      have HB2 := Lib.hid hb2
      have HU2 := Lib.hid (show ∃ h' : List Nat, h'.length = m ∧ w2.ownsRow wo.heap.size 34 1 (.slice A2 m c2) m (u64W h') from ⟨doL l h, HD.out, ho2⟩)
      clear ho2 hb2
      go_wp2
      go_loopw [39] (fun i wr => ∃ (k : Nat) (h' : List Nat), k ≤ m ∧ i = .int .i64 k ∧ Hid (h'.length = m) ∧ Hid (wr.ownsRow wo.heap.size 34 1 (.slice A2 m c2) m (u64W h')) ∧ Hid (Below wo.heap.size wo wr)) (fun i _ => m - (intOf i).toNat)
      case atStart =>
        obtain ⟨h', q1, q2⟩ := HU2.out
        exact ⟨0, h', by omega, rfl, Lib.hid q1, Lib.hid q2, HB2⟩
      case round =>
        obtain ⟨wp, rfl⟩ : ∃ wp : World, wp = wr := ⟨_, rfl⟩
        obtain ⟨k, h', hk, rfl, JL, JO, JB⟩ := hrel
        clear HR2 HB2 HU2
        by_cases hlt : k < m
        · have hlt' : decide ((k : Int) < m) = true := by simp; omega
          have hlt2 : (k : Int) < m := by omega
          obtain ⟨g, cc, e, hgl, hge, _⟩ := own_at JO.out (by omega)
          injection e with e1 e2 e3
          subst e1
          subst e3
          have x0 := (Bk.Src.of_own JO.out).at_ (k := k) hlt
          rw [u64W_at (by rw [JL.out]; exact hlt)] at x0
          simp only [Nat.zero_add] at x0
          have x2 : wp.frozen? ⟨g, k, none⟩ = false := own_frozen JO.out
          obtain ⟨xv, hxv⟩ : ∃ xv, h'.getD k 0 = xv := ⟨_, rfl⟩
          rw [hxv] at x0
          clear hxv
          go_wp2
          refine ⟨?_, by simp [intOf]; omega⟩
          obtain ⟨vv, hvv⟩ : ∃ v : Nat, IntKind.u64.wrap ((xv : Int) + 1) = (v : Int) := ⟨(IntKind.u64.wrap ((xv : Int) + 1)).toNat, by rw [IntKind.wrap_u64]; omega⟩
          rw [hvv]
          exact ⟨k + 1, h'.set k vv, by omega, by simp, Lib.hid (by rw [List.length_set]; exact JL.out), Lib.hid (own_store JO.out vv), Lib.hid (JB.out.setCell (p := ⟨g, k, none⟩) hge _)⟩
        · have hlt' : decide ((k : Int) < m) = false := by simp; omega
          have HBP := Lib.hid (HBX.out.trans (JB.out.mono HBX.out.size))
          have HB0P := Lib.hid (IB.out.trans (JB.out.mono IB.out.size))
          have HSP := Lib.hid (HS.out.below HBP.out (Nat.le_refl _))
          have HWP := Lib.hid (HW0.out.below HB0P.out (Nat.le_refl _))
          clear JO
          go_wp2
          go_loopw [51] (fun i wr => ∃ j : Nat, j ≤ n ∧ i = .int .i64 j ∧ Hid (Below wp.heap.size wp wr)) (fun i _ => n - (intOf i).toNat)
          case atStart => exact ⟨0, by omega, rfl, Lib.hid (Below.refl _ _)⟩
          case round =>
            obtain ⟨wi, rfl⟩ : ∃ wi : World, wi = wr := ⟨_, rfl⟩
            obtain ⟨j, hj, rfl, KB⟩ := hrel
            by_cases hjl : j < n
            · have hjl' : decide ((j : Int) < n) = true := by simp; omega
              have hjl2 : (j : Int) < n := by omega
              obtain ⟨ab, ao, rfl, hab⟩ := HSP.out.addr (by omega)
              obtain ⟨bb, bo, rfl, hbb⟩ := HWP.out.addr (by omega)
              obtain ⟨p, hp⟩ : ∃ p, l[j]? = some p := ⟨_, List.getElem?_eq_getElem (by rw [HL.out]; exact hjl)⟩
              obtain ⟨t, f⟩ := p
              obtain ⟨d0, d1⟩ := mv_cells (HSP.out.below KB.out (Nat.le_refl _)) hp
              obtain ⟨d2, d3⟩ := mv_cells (HWP.out.below KB.out (Nat.le_refl _)) hp
              have ht : (t == t) = true := by simp
              have hf : (f == f) = true := by simp
              clear hp
              go_wp2_with fail
              go_quiet (fail)
              go_wp2
              exact ⟨⟨j + 1, by omega, by simp, Lib.hid (below_drewN KB.out _)⟩, by simp [intOf]; omega⟩
            · have hjl' : decide ((j : Int) < n) = false := by simp; omega
              have HBI := Lib.hid (HBP.out.trans (KB.out.mono HBP.out.size))
              go_wp2_with fail
              refine (Row_any A n c l spare _ (HS.out.below HBI.out (Nat.le_refl _)) (by omega)).mono ?_
              rintro e w6 (⟨hf, rfl, hb6⟩ | ⟨hf, kk, A6, c6, rfl, ho6, hk6, hb6⟩)
              · obtain rfl : er = 1 := by
                  rcases HER.out with ⟨_, h⟩ | ⟨h, _⟩
                  · exact h
                  · rw [hf] at h; cases h
                have HB6 := Lib.hid (HBI.out.trans (hb6.mono HBI.out.size))
                clear hf hb6
                go_wp2_with fail
                refine (Do_any A B n c m d l h _ (HS.out.below HB6.out (Nat.le_refl _)) (by omega) (HH.out.below HB6.out (Nat.le_refl _)) HBN.out (by omega)).mono ?_
                rintro e w7 ⟨A7, c7, rfl, ho7, hb7⟩
                rw [HD.out] at ho7 ⊢
                have HO7 := Lib.hid (Bk.Src.of_own ho7)
                have HB7 := Lib.hid (HB6.out.trans (hb7.mono HB6.out.size))
                clear ho7 hb7
                go_wp2_with fail
                refine (RDo_any A B n c m d l h _ (HS.out.below HB7.out (Nat.le_refl _)) (by omega) (HH.out.below HB7.out (Nat.le_refl _)) (by omega)).mono ?_
                rintro e w8 ⟨A8, c8, rfl, ho8, hb8⟩
                rw [HD.out] at ho8 ⊢
                have HO8 := Lib.hid (Bk.Src.of_own ho8)
                have HO7' := Lib.hid (HO7.out.below hb8 (Nat.le_refl _))
                have HB8 := Lib.hid (HB7.out.trans (hb8.mono HB7.out.size))
                clear ho8 hb8
                go_wp2_with fail
                refine (Words_eq A7 A8 m c7 c8 (doL l h) _ HO7'.out HO8.out (by omega)).mono ?_
                rintro e w9 ⟨rfl, hb9⟩
                have HB9 := Lib.hid (HB8.out.trans (hb9.mono HB8.out.size))
                clear hb9
                go_wp2_with fail
                refine (alive_any _).mono ?_
                rintro e w10 ⟨rfl, hb10⟩
                have HB10 := Lib.hid (HB9.out.trans (hb10.mono HB9.out.size))
                clear hb10
                go_wp2
                go_ret
                exact ⟨rfl, HB10.out⟩
              · obtain rfl : er = 0 := by
                  rcases HER.out with ⟨h, _⟩ | ⟨_, h⟩
                  · rw [hf] at h; cases h
                  · exact h
                have HRP := Lib.hid (fits_spare hf).1
                have HK := Lib.hid hk6
                have HB6 := Lib.hid (HBI.out.trans (hb6.mono HBI.out.size))
                clear hf hb6 ho6 hk6
                go_wp2_with fail
                refine (Least_any A n c l _ (HS.out.below HB6.out (Nat.le_refl _)) (by omega)).mono ?_
                rintro e w62 ⟨r, rfl, hrc, hb62⟩
                have hq2 : (kk.length == r + (nontriv l).length) = true := by
                  have := HK.out.len (hrc (decide_eq_true HRP.out))
                  simp
                  omega
                have hq1 : ((kk.length : Int) == ((r + (nontriv l).length : Nat) : Int)) = true := by
                  have := HK.out.len (hrc (decide_eq_true HRP.out))
                  rw [this]
                  simp
                  omega
                have HB62 := Lib.hid (HB6.out.trans (hb62.mono HB6.out.size))
                clear hb62 hrc
                obtain ⟨q, hq⟩ : ∃ q, r + (nontriv l).length = q := ⟨_, rfl⟩
                rw [hq] at hq1 hq2 ⊢
                clear hq
                go_wp2_with fail
                refine (Do_any A B n c m d l h _ (HS.out.below HB62.out (Nat.le_refl _)) (by omega) (HH.out.below HB62.out (Nat.le_refl _)) HBN.out (by omega)).mono ?_
                rintro e w7 ⟨A7, c7, rfl, ho7, hb7⟩
                rw [HD.out] at ho7 ⊢
                have HO7 := Lib.hid (Bk.Src.of_own ho7)
                have HB7 := Lib.hid (HB62.out.trans (hb7.mono HB62.out.size))
                clear ho7 hb7
                go_wp2_with fail
                refine (RDo_any A B n c m d l h _ (HS.out.below HB7.out (Nat.le_refl _)) (by omega) (HH.out.below HB7.out (Nat.le_refl _)) (by omega)).mono ?_
                rintro e w8 ⟨A8, c8, rfl, ho8, hb8⟩
                rw [HD.out] at ho8 ⊢
                have HO8 := Lib.hid (Bk.Src.of_own ho8)
                have HO7' := Lib.hid (HO7.out.below hb8 (Nat.le_refl _))
                have HB8 := Lib.hid (HB7.out.trans (hb8.mono HB7.out.size))
                clear ho8 hb8
                go_wp2_with fail
                refine (Words_eq A7 A8 m c7 c8 (doL l h) _ HO7'.out HO8.out (by omega)).mono ?_
                rintro e w9 ⟨rfl, hb9⟩
                have HB9 := Lib.hid (HB8.out.trans (hb9.mono HB8.out.size))
                clear hb9
                go_wp2_with fail
                refine (alive_any _).mono ?_
                rintro e w10 ⟨rfl, hb10⟩
                have HB10 := Lib.hid (HB9.out.trans (hb10.mono HB9.out.size))
                clear hb10
                go_wp2
                go_ret
                exact ⟨rfl, HB10.out⟩
end Go.Proofs.Ytbnfhcdodejmhaa
