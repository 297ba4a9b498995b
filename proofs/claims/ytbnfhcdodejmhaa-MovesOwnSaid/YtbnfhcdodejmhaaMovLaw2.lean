/-
  MovesAsk: what the statement's function answers.
  Conditions: the rows are within the row's own reach.
-/
import Derived.Test.YtbnfhcdodejmhaaMovLaw1
namespace Go.Bk.Mov
open Go Go.Bk
def setAdd (L : List Int) (k : Int) : List Int := if k ∈ L then L else L ++ [k]
theorem setAdd_mem (L : List Int) (k x : Int) : x ∈ setAdd L k ↔ x ∈ L ∨ x = k := by
  unfold setAdd
  split
  · rename_i h
    exact ⟨.inl, fun hh => hh.elim id (fun e => e ▸ h)⟩
  · simp
theorem updM_same : ∀ (L : List Int) (k : Int), k ∈ L → updM (bvs L) k (.bool true) = bvs L
  | [], k, h => by simp at h
  | a :: r, k, h => by
    simp only [bvs, List.map_cons, updM]
    by_cases e : k = a
    · simp [e]
    · rw [if_neg e]
      have h' : k ∈ r := by
        rcases List.mem_cons.1 h with h | h
        · exact absurd h e
        · exact h
      have := updM_same r k h'
      simp only [bvs] at this
      rw [this]
theorem updM_set (L : List Int) (k : Int) : updM (bvs L) k (.bool true) = bvs (setAdd L k) := by
  unfold setAdd
  split
  · exact updM_same L k (by assumption)
  · exact updM_bvs L k (by assumption)
theorem froms_take {l : List Mv} {k : Nat} {p : Mv} (h : l[k]? = some p) : froms (l.take (k + 1)) = froms (l.take k) ++ [p.2] := by
  obtain ⟨hk', e⟩ := List.getElem?_eq_some_iff.1 h
  rw [List.take_succ_eq_append_getElem hk', e]
  simp [froms]
end Go.Bk.Mov
namespace Go.Proofs.Ytbnfhcdodejmhaa
open Go.RowKit Go.Bk Go.Bk.Mov
set_option linter.unusedVariables false
set_option linter.unusedSimpArgs false

theorem src_mv {w : World} {base n c : Nat} {A : Option Addr} {k : List Mv} (h : w.ownsRow base 38 2 (.slice A n c) n (mvV k)) : Bk.Src w A (n * 2) (mvV k) := by
  refine ⟨h.1, fun hn => ?_⟩
  rcases h.2 with ⟨h1, h2⟩ | ⟨g, cap, cur, h1, _, hg, _⟩
  · omega
  · have hA : A = some ⟨g, 0, none⟩ := by injection h1
    subst hA
    refine ⟨g, 0, rfl, (Array.getElem?_eq_some_iff.1 hg).1, fun j u hu => ?_⟩
    have := h.cells (g := g) rfl j u hu
    rwa [Addr.add_lit] at this
theorem own_max {w : World} {base n c size : Nat} {e : TypeId} {A : Option Addr} {xs : List Value} (h : w.ownsRow base e size (.slice A n c) n xs) : n ≤ 9223372036854775807 := by
  rcases h.2 with ⟨_, h2⟩ | ⟨g, cap, cur, _, _, _, h3, h4, _⟩
  · omega
  · unfold maxLen at h4; omega
def AsRel (l : List Mv) (n B : Nat) (w1 : World) (i : Value) (wr : World) : Prop :=
  ∃ (k : Nat) (L : List Int), k ≤ n ∧ i = .int .i64 k ∧ IM wr B (bvs L) ∧ (∀ x, x ∈ L ↔ x ∈ tos (l.take k) ∨ x ∈ froms (l.take k)) ∧ Below w1.heap.size w1 wr

set_option maxRecDepth 100000 in
set_option maxHeartbeats 4000000 in
theorem MovesAsk_true (w : World) (A : Option Addr) (n c : Nat) (l : List Mv) (hs : MvIn w A n c l) (hr : c * Try.prog.bytesOf 38 ≤ reachBytes) (spare : Int) (hsp : (Lit.int .i64 spare).wf = true) :
    Calls Try.prog 8 #[.slice A n c, .int .i64 spare] w fun e w' => e = .returned (.bool true) ∧ Below w.heap.size w w' := by
  have hn := mv_bound hs hr
  have hl := hs.len
  have HS := Lib.hid hs.1
  have HL := Lib.hid hl
  have hm1 : ∀ w, (Instr.makeMap 36 none).run Try.prog w = .ok (.map (some w.heap.size)) (w.alloc (.map #[] 0)) := fun w => by simp [Instr.makeMap]
  clear hs hr hsp hl
  go_enter Try.func8, Try.ntmps8
  go_wp2_with fail
  refine (Row_any A n c l spare _ HS.out (by omega)).mono ?_
  rintro e w1 (⟨hf, rfl, hb1⟩ | ⟨hf, kk, A1, c1, rfl, ho1, hk, hb1⟩)
  · have HB1 := Lib.hid hb1
    clear hf hb1
    go_wp2_with fail
    refine (alive_any _).mono ?_
    rintro e w5 ⟨rfl, hb5⟩
    have HB5 := Lib.hid (HB1.out.trans (hb5.mono HB1.out.size))
    clear hb5
    go_wp2
    go_ret
    exact ⟨rfl, HB5.out⟩
  · have HF := Lib.hid hf
    have HRP := Lib.hid (fits_spare hf).1
    obtain ⟨nn, hrc, hkl, hask⟩ := hk.rc
    have hnl := nt_len l
    have hrp := HRP.out.1
    have hkb : kk.length ≤ 256 + nn := by omega
    have HRC := Lib.hid hrc
    have HASK := Lib.hid hask
    have HK1 := Lib.hid (src_mv ho1)
    have HB1 := Lib.hid hb1
    have hz1 := hb1.size
    obtain ⟨kl, hkl2⟩ : ∃ q, kk.length = q := ⟨_, rfl⟩
    rw [hkl2] at HK1 ⊢
    have HKL := Lib.hid hkl2
    have hklm : kl ≤ 9223372036854775807 := by rw [← hkl2]; exact own_max ho1
    have HS1 := Lib.hid (HS.out.below hb1 (Nat.le_refl _))
    have H0 := Lib.hid (IM.new w1)
    clear hf ho1 hk hb1 hrc hask hkl hkl2 hkb
    go_wp2
    go_loopw [24] (fun i wr => AsRel l n w1.heap.size w1 i wr) (fun i _ => n - (intOf i).toNat)
    case atStart => exact ⟨0, [], by omega, rfl, H0.out, by simp [tos, froms], (Below.refl _ _).alloc (Nat.le_refl _) _⟩
    case round =>
      obtain ⟨wo, rfl⟩ : ∃ wo : World, wo = wr := ⟨_, rfl⟩
      obtain ⟨k, L, hk, rfl, hI, hLm, hB⟩ := hrel
      have II := Lib.hid hI
      have IL := Lib.hid hLm
      have IB := Lib.hid hB
      have hbz := hB.size
      have hil := hI.lt
      clear hI hLm hB H0
      by_cases hlt : k < n
      · have hlt' : decide ((k : Int) < n) = true := by simp; omega
        have hlt2 : (k : Int) < n := by omega
        obtain ⟨ab, ao, rfl, hab⟩ := HS1.out.addr (by omega)
        obtain ⟨p, hp⟩ : ∃ p, l[k]? = some p := ⟨_, List.getElem?_eq_getElem (by rw [HL.out]; exact hlt)⟩
        obtain ⟨t, f⟩ := p
        obtain ⟨c0, c1'⟩ := mv_cells (HS1.out.below IB.out (Nat.le_refl _)) hp
        have HP := Lib.hid hp
        have JI := Lib.hid (II.out.alloc (.cells #[.int .i64 t, .int .i64 f] 38))
        have JX := Lib.hid (Blk.new wo 38 #[.int .i64 t, .int .i64 f])
        have JB := Lib.hid (IB.out.alloc hbz (.cells #[.int .i64 t, .int .i64 f] 38))
        clear hp
        go_wp2
        generalize wo.alloc (.cells #[.int .i64 t, .int .i64 f] 38) = W1 at JI JX JB ⊢
        have z0 := JX.out.cell 0
        have z1 := JX.out.cell 1
        simp at z0 z1
        clear c0 c1'
        obtain ⟨W2, hrun2, hm2, hg2, hz2⟩ := JI.out.drew.update (P := Try.prog) Try.underlying36 Try.underlying3 t (.bool true)
        rw [updM_set] at hm2
        obtain ⟨W3, hrun3, hm3, hg3, hz3⟩ := hm2.update (P := Try.prog) Try.underlying36 Try.underlying3 f (.bool true)
        rw [updM_set] at hm3
        have hX2 := JX.out.drew.grown hg2 (fun e => by injection e with e; omega)
        have y0 := hX2.cell 0
        have y1 := hX2.cell 1
        simp at y0 y1
        have HM2 := Lib.hid hm2
        have HM3 := Lib.hid hm3
        have HG2 := Lib.hid hg2
        have HG3 := Lib.hid hg3
        clear hm2 hm3 hg2 hg3 hz2 hz3 hX2
        go_region
        all_goals
          have hm3 := HM3.out
          have hg2 := HG2.out
          have hg3 := HG3.out
          have KI := Lib.hid hm3
          have KB2 := below_grown JB.out.drew hg2 JB.out.size (fun k hk => by injection hk with hk; omega)
          have KB := Lib.hid (below_grown KB2 hg3 KB2.size (fun k hk => by injection hk with hk; omega))
          clear hg2 hm3 hg3 KB2 z0 z1 y0 y1 hrun2 hrun3
          go_wp2
          go_roundw
          case rel =>
            refine ⟨k + 1, setAdd (setAdd L t) f, by omega, by simp, KI.out, fun x => ?_, KB.out⟩
            rw [setAdd_mem, setAdd_mem, IL.out x, tos_take HP.out, froms_take HP.out, List.mem_append, List.mem_append, List.mem_singleton, List.mem_singleton]
            constructor
            · rintro (((h | h) | h) | h)
              · exact .inl (.inl h)
              · exact .inr (.inl h)
              · exact .inl (.inr h)
              · exact .inr (.inr h)
            · rintro ((h | h) | (h | h))
              · exact .inl (.inl (.inl h))
              · exact .inl (.inr h)
              · exact .inl (.inl (.inr h))
              · exact .inr h
          case measure => simp [intOf]; omega
      · have hlt' : decide ((k : Int) < n) = false := by simp; omega
        have hLf : ∀ x, x ∈ L ↔ x ∈ tos l ∨ x ∈ froms l := fun x => by
          have := IL.out x
          rwa [List.take_of_length_le (by rw [HL.out]; omega)] at this
        have HLF := Lib.hid hLf
        clear hLf IL
        go_wp2_with fail
        refine (RRings_any A n c l _ (HS1.out.below IB.out (Nat.le_refl _)) (by omega)).mono ?_
        rintro e w2 ⟨r, rfl, _, hr2, hr3, hb2⟩
        have hrn : nn = r := HRC.out.one (hr2 (decide_eq_true HRP.out))
        subst hrn
        have KI := Lib.hid (II.out.below hb2 hil)
        have KB := Lib.hid (IB.out.trans (hb2.mono IB.out.size))
        have hkz := KB.out.size
        have hkl3 := KI.out.lt
        clear hr2 hb2 II IB
        rcases Nat.eq_zero_or_pos nn with h0 | h0
        · subst h0
          have HK5 := Lib.hid (HK1.out.below KB.out (Nat.le_refl _))
          have HI5 := KI
          have HB5 := Lib.hid (HB1.out.trans (KB.out.mono HB1.out.size))
          have HLL := Lib.hid (show ∀ x, Okp l spare 0 x → x ∈ L from fun x hx => by
            rcases hx with hx | hx | ⟨_, hx⟩
            · exact (HLF.out x).2 (.inl hx)
            · exact (HLF.out x).2 (.inr hx)
            · omega)
          obtain ⟨W5, hW5⟩ : ∃ W5 : World, W5 = w2 := ⟨_, rfl⟩
          subst hW5
          go_wp2
          go_loopw [42] (fun i wr => ∃ j : Nat, j ≤ kl ∧ i = .int .i64 j ∧ Hid (Below W5.heap.size W5 wr)) (fun i _ => kl - (intOf i).toNat)
          case atStart => exact ⟨0, by omega, rfl, Lib.hid (Below.refl _ _)⟩
          case round =>
            obtain ⟨wi, rfl⟩ : ∃ wi : World, wi = wr := ⟨_, rfl⟩
            obtain ⟨j, hj, rfl, IBI⟩ := hrel
            by_cases hjl : j < kl
            · have hjl' : decide ((j : Int) < kl) = true := by simp; omega
              have hjl2 : (j : Int) < kl := by omega
              obtain ⟨kb, ko, rfl, hkb'⟩ := HK5.out.addr (by omega)
              obtain ⟨p, hp⟩ : ∃ p, kk[j]? = some p := ⟨_, List.getElem?_eq_getElem (by rw [HKL.out]; exact hjl)⟩
              obtain ⟨t, f⟩ := p
              obtain ⟨d0, d1⟩ := mv_cells (HK5.out.below IBI.out (Nat.le_refl _)) hp
              have hmem := HASK.out (t, f) (List.mem_of_getElem? hp)
              have hkz' : kb < wi.heap.size := Nat.lt_of_lt_of_le hkb' IBI.out.size
              have hIMi := (HI5.out.below IBI.out HI5.out.lt).alloc (.cells #[.int .i64 t, .int .i64 f] 38)
              have lk1 := (hIMi.lookup (P := Try.prog) Try.underlying36 Try.underlying3 (zero_bool _) t).1
              have lk2 := (hIMi.lookup (P := Try.prog) Try.underlying36 Try.underlying3 (zero_bool _) f).1
              rw [getM_bvs, if_pos (HLL.out t hmem.1)] at lk1
              rw [getM_bvs, if_pos (HLL.out f hmem.2)] at lk2
              simp only [Option.getD_some] at lk1 lk2
              clear hmem hIMi hp
              go_wp2
              exact ⟨⟨j + 1, by omega, by simp, Lib.hid (IBI.out.alloc IBI.out.size _)⟩, by simp [intOf]; omega⟩
            · have hjl' : decide ((j : Int) < kl) = false := by simp; omega
              go_wp2_with fail
              refine (alive_any _).mono ?_
              rintro e w7 ⟨rfl, hb7⟩
              have HB7 := Lib.hid (HB5.out.trans ((IBI.out.trans (hb7.mono IBI.out.size)).mono HB5.out.size))
              clear hb7
              go_wp2
              go_ret
              exact ⟨rfl, HB7.out⟩
        · have h0' : decide ((0 : Int) < nn) = true := by simp; omega
          have h0'' : 0 < nn := h0
          go_wp2_with (at_mapUpdate; refine wp_upd _ rfl _ _ _ 36 rfl 3 4 Try.underlying36 Try.underlying3 w1.heap.size (bvs L) spare (.bool true) rfl rfl rfl KI.out ?_)
          rintro W5 hm5 hg5 hz5
          rw [updM_set] at hm5
          have KB5 := below_grown KB.out hg5 KB.out.size (fun k hk => by injection hk with hk; omega)
          have HK5 := Lib.hid (HK1.out.below KB5 (Nat.le_refl _))
          have HI5 := Lib.hid hm5
          have HB5 := Lib.hid (HB1.out.trans (KB5.mono HB1.out.size))
          have HLL := Lib.hid (show ∀ x, Okp l spare nn x → x ∈ setAdd L spare from fun x hx => (setAdd_mem _ _ _).2 (by
            rcases hx with hx | hx | ⟨hx, _⟩
            · exact .inl ((HLF.out x).2 (.inl hx))
            · exact .inl ((HLF.out x).2 (.inr hx))
            · exact .inr hx))
          clear hm5 hg5 hz5 KB5
          go_wp2
          go_loopw [42] (fun i wr => ∃ j : Nat, j ≤ kl ∧ i = .int .i64 j ∧ Hid (Below W5.heap.size W5 wr)) (fun i _ => kl - (intOf i).toNat)
          case atStart => exact ⟨0, by omega, rfl, Lib.hid (Below.refl _ _)⟩
          case round =>
            obtain ⟨wi, rfl⟩ : ∃ wi : World, wi = wr := ⟨_, rfl⟩
            obtain ⟨j, hj, rfl, IBI⟩ := hrel
            by_cases hjl : j < kl
            · have hjl' : decide ((j : Int) < kl) = true := by simp; omega
              have hjl2 : (j : Int) < kl := by omega
              obtain ⟨kb, ko, rfl, hkb'⟩ := HK5.out.addr (by omega)
              obtain ⟨p, hp⟩ : ∃ p, kk[j]? = some p := ⟨_, List.getElem?_eq_getElem (by rw [HKL.out]; exact hjl)⟩
              obtain ⟨t, f⟩ := p
              obtain ⟨d0, d1⟩ := mv_cells (HK5.out.below IBI.out (Nat.le_refl _)) hp
              have hmem := HASK.out (t, f) (List.mem_of_getElem? hp)
              have hkz' : kb < wi.heap.size := Nat.lt_of_lt_of_le hkb' IBI.out.size
              have hIMi := (HI5.out.below IBI.out HI5.out.lt).alloc (.cells #[.int .i64 t, .int .i64 f] 38)
              have lk1 := (hIMi.lookup (P := Try.prog) Try.underlying36 Try.underlying3 (zero_bool _) t).1
              have lk2 := (hIMi.lookup (P := Try.prog) Try.underlying36 Try.underlying3 (zero_bool _) f).1
              rw [getM_bvs, if_pos (HLL.out t hmem.1)] at lk1
              rw [getM_bvs, if_pos (HLL.out f hmem.2)] at lk2
              simp only [Option.getD_some] at lk1 lk2
              clear hmem hIMi hp
              go_wp2
              exact ⟨⟨j + 1, by omega, by simp, Lib.hid (IBI.out.alloc IBI.out.size _)⟩, by simp [intOf]; omega⟩
            · have hjl' : decide ((j : Int) < kl) = false := by simp; omega
              go_wp2_with fail
              refine (alive_any _).mono ?_
              rintro e w7 ⟨rfl, hb7⟩
              have HB7 := Lib.hid (HB5.out.trans ((IBI.out.trans (hb7.mono IBI.out.size)).mono HB5.out.size))
              clear hb7
              go_wp2
              go_ret
              exact ⟨rfl, HB7.out⟩
end Go.Proofs.Ytbnfhcdodejmhaa
