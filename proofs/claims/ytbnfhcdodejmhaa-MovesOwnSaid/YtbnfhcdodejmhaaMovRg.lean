/-
  rings: all that is left, ring by ring, with a spare place.
  Conditions: all that is left are rings.
-/
import Derived.Test.YtbnfhcdodejmhaaMovPlaces
import Derived.Test.YtbnfhcdodejmhaaMovFree
import Derived.Deep.RegionHeld3
import Derived.Deep.AppendLies
namespace Go.Proofs.Ytbnfhcdodejmhaa
open Go.RowKit Go.Bk Go.Bk.Mov
set_option linter.unusedVariables false
set_option linter.unusedSimpArgs false

/-- the row of places lies apart from the sorter -/
def Apart (sb bf ba : Nat) (ov : Value) (A : Option Addr) : Prop := ∀ a, A = some a → a.block ≠ sb ∧ a.block ≠ bf ∧ a.block ≠ ba ∧ ov.ownBlock ≠ some a.block

def RgPost (l : List Mv) (spare : Int) (base sb bf ba : Nat) (w : World) (e : Ending) (w' : World) : Prop :=
  ∃ (n : Nat) (Ak out : List Mv) (ov : Value), e = .returned (.int .i64 n) ∧ Srt w' base sb bf ba [] Ak out ov ∧ SInv l [] out spare n ∧ Below base w w'

def RgRel (l : List Mv) (spare : Int) (base sb bf ba : Nat) (w : World) (A : Option Addr) (P : List Int) (nv i : Value) (wr : World) : Prop :=
  ∃ (k n : Nat) (F Ak out : List Mv) (ov : Value), i = .int .i64 k ∧ nv = .int .i64 n ∧ k ≤ P.length ∧ n ≤ k ∧ Srt wr base sb bf ba F Ak out ov ∧ SInv l F out spare n ∧ Rings F ∧ (∀ t, t ∈ tos F → t ∈ P.drop k) ∧ Bk.Src wr A P.length (i64s P) ∧ Apart sb bf ba ov A ∧ Below base w wr

def InRel (l : List Mv) (spare first : Int) (n : Nat) (F0 : List Mv) (base sb bf ba : Nat) (w : World) (A : Option Addr) (P : List Int) (atv : Value) (wr : World) : Prop :=
  ∃ (at_ : Int) (F Ak out : List Mv) (ov : Value), atv = .int .i64 at_ ∧ Srt wr base sb bf ba F Ak out ov ∧ RInv l F0 F out spare first at_ n ∧ Bk.Src wr A P.length (i64s P) ∧ Apart sb bf ba ov A ∧ Below base w wr

/-- behind an append to the sorter's row, and its store -/
theorem push_all {w w1 : World} {base sb bf ba : Nat} {F Ak out : List Mv} {ov v1 : Value} {A : Option Addr} {P : List Int} {W : World} {t f : Int} (hS : Srt w base sb bf ba F Ak out ov) (hP : Bk.Src w A P.length (i64s P)) (hA : Apart sb bf ba ov A) (hB : Below base W w)
    (h1 : w1.ownsRow base 38 2 v1 (out.length + 1) (mvV out ++ [.int .i64 t, .int .i64 f])) (h2 : (w.alloc (.cells #[.int .i64 t, .int .i64 f] 38)).grownBy w1 ov.ownBlock) (h3 : v1.ownBlock = ov.ownBlock ∨ v1.ownBlock = some (w.heap.size + 1)) (hlt : ∀ a, A = some a → a.block < w.heap.size) :
    Srt (w1.setCell ⟨sb, 2, none⟩ v1) base sb bf ba F Ak (out ++ [(t, f)]) v1 ∧ Bk.Src (w1.setCell ⟨sb, 2, none⟩ v1) A P.length (i64s P) ∧ Apart sb bf ba v1 A ∧ Below base W (w1.setCell ⟨sb, 2, none⟩ v1) := by
  have hz : base ≤ w.heap.size := Nat.le_trans hS.lsb (Nat.le_of_lt hS.blk.lt)
  refine ⟨(hS.alloc _).push h2 h1 (h3.imp id fun e => ⟨_, by simp, e⟩), ((hP.alloc _).grown h2 (fun a ha => (hA a ha).2.2.2)).setCell _ (fun a ha => (hA a ha).1), fun a ha => ⟨(hA a ha).1, (hA a ha).2.1, (hA a ha).2.2.1, ?_⟩, (below_grown (hB.alloc hz _) h2 (by simp; omega) (fun k hk => (hS.out.lt k hk).1)).setCell (p := ⟨sb, 2, none⟩) hS.lsb v1⟩
  rcases h3 with e | e
  · rw [e]; exact (hA a ha).2.2.2
  · rw [e]; intro e'; injection e' with e'; have := hlt a ha; omega
/-- behind a deletion in the first map -/
theorem del_all {w w2 : World} {base sb bf ba : Nat} {F F' Ak out : List Mv} {ov : Value} {A : Option Addr} {P : List Int} {W : World} (hS : Srt w base sb bf ba F Ak out ov) (hP : Bk.Src w A P.length (i64s P)) (hA : Apart sb bf ba ov A) (hB : Below base W w)
    (hm : IM w2 bf (ivs F')) (hg : w.grownBy w2 (some bf)) : Srt w2 base sb bf ba F' Ak out ov ∧ Bk.Src w2 A P.length (i64s P) ∧ Below base W w2 :=
  ⟨hS.putF hg hm, hP.grown hg (fun a ha e => (hA a ha).2.1 (by injection e with e; exact e.symm)), below_grown hB hg (Nat.le_trans hS.lsb (Nat.le_of_lt hS.blk.lt)) (fun k hk => by injection hk with hk; rw [← hk]; exact hS.lbf)⟩

theorem nt_len (l : List Mv) : (nontriv l).length ≤ l.length := by
  have h2 := nontriv_len l l.length
  rwa [List.take_of_length_le (Nat.le_refl _)] at h2
theorem drop_next {P : List Int} {k : Nat} {x t : Int} (h : P[k]? = some x) (ht : t ∈ P.drop k) (hne : t ≠ x) : t ∈ P.drop (k + 1) := by
  obtain ⟨hk, e⟩ := List.getElem?_eq_some_iff.1 h
  rw [List.drop_eq_getElem_cons hk, e] at ht
  rcases List.mem_cons.1 ht with h | h
  · exact absurd h hne
  · exact h
theorem drop_least {P : List Int} (hp : P.Pairwise (· ≤ ·)) {k : Nat} {x t : Int} (h : P[k]? = some x) (ht : t ∈ P.drop k) : x ≤ t := by
  obtain ⟨hk, e⟩ := List.getElem?_eq_some_iff.1 h
  have hd : (P.drop k).Pairwise (· ≤ ·) := List.Pairwise.sublist (List.drop_sublist _ _) hp
  rw [List.drop_eq_getElem_cons hk, e] at ht hd
  rcases List.mem_cons.1 ht with h | h
  · omega
  · exact (List.pairwise_cons.1 hd).1 t h

theorem grown_undrew {w w' : World} {r : Option Nat} (h : w.drew.grownBy w' r) : w.grownBy w' r := ⟨h.os, h.tape, h.output, h.size, h.block⟩
theorem own_lies {v : Value} {gg n c N : Nat} (h : v.ownBlock = some gg ∨ gg = N) : (Value.slice (some ⟨gg, 0, none⟩) n c).ownBlock = v.ownBlock ∨ (Value.slice (some ⟨gg, 0, none⟩) n c).ownBlock = some N := by
  rcases h with h | h
  · exact .inl (by rw [h]; rfl)
  · exact .inr (by rw [h]; rfl)
theorem look_im {w : World} {bf : Nat} {F : List Mv} {t f : Int} (h : IM w bf (ivs F)) (hf : Mov.Fn F) (hm : (t, f) ∈ F) : (Instr.lookup 50 (.map (some bf)) (.int .i64 t) false).run Try.prog w = .ok (.int .i64 f) w := by
  have := (h.lookup (P := Try.prog) Try.underlying50 Try.underlying3 (zero_i64 _) t).1
  rwa [getM_ivs, getI_mem hf hm] at this

theorem srt_S {w : World} {base sb bf ba : Nat} {F Ak out : List Mv} {ov : Value} (h : Srt w base sb bf ba F Ak out ov) (hf : Mov.Fn F) {t f : Int} (hm : (t, f) ∈ F) :
    IM w bf (ivs F) ∧ w.cell? ⟨sb, 0, none⟩ = some (.map (some bf)) ∧ w.cell? ⟨sb, 2, none⟩ = some ov ∧ w.frozen? ⟨sb, 2, none⟩ = false ∧ (Instr.lookup 50 (.map (some bf)) (.int .i64 t) false).run Try.prog w = .ok (.int .i64 f) w :=
  ⟨h.f, h.cells.1, h.cells.2.2, frozen_of_row w sb 2 _ _ h.blk, look_im h.f hf hm⟩
theorem srt_S' {w w' : World} {base sb bf ba : Nat} {F Ak out : List Mv} {ov : Value} (h : Srt w base sb bf ba F Ak out ov) (hg : w.grownBy w' ov.ownBlock) (hf : Mov.Fn F) {t f : Int} (hm : (t, f) ∈ F) :
    IM w' bf (ivs F) ∧ w'.cell? ⟨sb, 0, none⟩ = some (.map (some bf)) ∧ w'.cell? ⟨sb, 2, none⟩ = some ov ∧ w'.frozen? ⟨sb, 2, none⟩ = false ∧ (Instr.lookup 50 (.map (some bf)) (.int .i64 t) false).run Try.prog w' = .ok (.int .i64 f) w' := by
  have hb := h.blk.grown hg h.o1
  have hi := h.f.grown hg h.o2
  exact ⟨hi, by rw [hb.cell]; rfl, by rw [hb.cell]; rfl, frozen_of_row w' sb 2 _ _ hb, look_im hi hf hm⟩

set_option maxRecDepth 100000 in
set_option maxHeartbeats 8000000 in
theorem rings_any (l : List Mv) (spare : Int) (base sb bf ba : Nat) (F Ak out : List Mv) (ov : Value) (w : World) (hl : Mov.Fn l) (hl2 : l.length ≤ 256) (hS : Srt w base sb bf ba F Ak out ov) (hI : SInv l F out spare 0) (hR : Rings F) :
    Calls Try.prog 28 #[.pointer (some ⟨sb, 0, none⟩), .int .i64 spare] w (RgPost l spare base sb bf ba w) := by
  have hF : F.length ≤ 256 := by have := hI.len; have := nt_len l; omega
  have HS := Lib.hid hS
  have HI := Lib.hid hI
  have HR := Lib.hid hR
  have HL := Lib.hid hl
  clear hl hS hI hR
  go_enter Try.func28, Try.ntmps28
  go_wp2_with fail
  refine (places_any sb bf ba F ov _ HS.out.blk HS.out.f (by omega)).mono ?_
  rintro e w1 ⟨P, A, c, rfl, hP, hT, hpw, hPl, hb1⟩
  have hz : base ≤ w.heap.size := Nat.le_trans HS.out.lsb (Nat.le_of_lt HS.out.blk.lt)
  have HP := Lib.hid (Bk.Src.of_own hP)
  have hPl2 : P.length ≤ 256 := by omega
  have HPW := Lib.hid hpw
  have HA := Lib.hid (show Apart sb bf ba ov A from fun a ha => by
    subst ha
    have h1 := (hP.lt a.block rfl).1
    have h2 := HS.out.blk.lt
    have h3 := HS.out.f.lt
    have h4 := HS.out.a.lt
    exact ⟨by omega, by omega, by omega, fun e => by have := (HS.out.out.lt _ e).2; omega⟩)
  have HLT := Lib.hid (show ∀ a, A = some a → a.block < w1.heap.size from fun a ha => by subst ha; exact (hP.lt a.block rfl).2)
  have h0 := HS.out
  have HS1 := Lib.hid (show Srt w1 base sb bf ba F Ak out ov from
    { h0 with blk := h0.blk.below hb1 h0.blk.lt, f := h0.f.below hb1 h0.f.lt, a := h0.a.below hb1 h0.a.lt, out := own_below h0.out hb1 (Nat.le_refl _) })
  have HB1 := Lib.hid (show Below base w w1 from hb1.mono hz)
  have HT := Lib.hid (show ∀ t, t ∈ tos F → t ∈ P.drop 0 from fun t ht => (hT t).2 ht)
  clear hP hT hpw hPl hb1 h0 HS
  go_wp2
  go_loopw [5, 15] (fun nv i wr => RgRel l spare base sb bf ba w A P nv i wr) (fun _ i _ => P.length - (intOf i).toNat)
  case atStart => exact ⟨0, 0, F, Ak, out, ov, rfl, rfl, by omega, by omega, HS1.out, HI.out, HR.out, HT.out, HP.out, HA.out, HB1.out⟩
  case round =>
    obtain ⟨wo, rfl⟩ : ∃ wo : World, wo = wr := ⟨_, rfl⟩
    clear HS1 HI HR HT HP HA HB1
    obtain ⟨k, n, F, Ak, out, ov, rfl, rfl, hk, hnk, hS, hI, hR, hT, hP, hA, hB⟩ := hrel
    by_cases hlt : k < P.length
    · have hlt' : decide ((k : Int) < P.length) = true := by simp; omega
      have hlt2 : (k : Int) < P.length := by omega
      obtain ⟨ab, ao, rfl, hab⟩ := hP.addr (by omega)
      obtain ⟨first, hfi⟩ : ∃ x, P[k]? = some x := ⟨_, List.getElem?_eq_getElem hlt⟩
      have c0 := hP.at_ hlt
      rw [i64s_at hlt, (List.getElem?_eq_some_iff.1 hfi).2] at c0
      obtain ⟨Ao, co, hov, _⟩ := own_shape hS.out
      subst hov
      obtain ⟨s0, s1, s2⟩ := hS.cells
      have hlk := (hS.f.lookup (P := Try.prog) Try.underlying50 Try.underlying3 (zero_i64 _) first).2
      rw [getM_ivs] at hlk
      have IS := Lib.hid hS
      have II := Lib.hid hI
      have IR := Lib.hid hR
      have IT' := Lib.hid hT
      have IP := Lib.hid hP
      have IA := Lib.hid hA
      have IB := Lib.hid hB
      have HFI := Lib.hid hfi
      have hbz : base ≤ wo.heap.size := Nat.le_trans hS.lsb (Nat.le_of_lt hS.blk.lt)
      clear hS hI hR hT hP hA hB hfi
      cases hgt : getI F first with
      | none =>
        rw [hgt] at hlk
        simp only [Option.map_none, Option.getD_none, Option.isSome_none] at hlk
        have HG := Lib.hid hgt
        clear hgt
        go_wp2
        go_roundw
        case rel => exact ⟨k + 1, n, F, Ak, out, _, by simp, rfl, by omega, by omega, IS.out, II.out, IR.out, fun t ht => drop_next HFI.out (IT'.out t ht) (fun e => getI_none HG.out (e ▸ ht)), IP.out, IA.out, IB.out⟩
        case measure => simp [intOf]; omega
      | some f0 =>
        rw [hgt] at hlk
        simp only [Option.map_some, Option.getD_some, Option.isSome_some] at hlk
        have HG := Lib.hid hgt
        clear hgt
        have hol : out.length ≤ 512 := by have := II.out.len; have := nt_len l; omega
        go_wp2_with (at_builtin; refine append_at _ rfl (.tmp 36) (.tmp 40) 22 rfl base 38 (.agg #[.int .i64 0, .int .i64 0]) 2 16 Try.underlying22 info_move rfl (by omega) _ out.length (mvV out) rfl (own_alloc IS.out.out _) (some ⟨wo.heap.size, 0, none⟩) 1 1 [.int .i64 spare, .int .i64 first] rfl (Blk.srcAll (cs := #[.int .i64 spare, .int .i64 first]) (Blk.new wo 38 _) rfl) (mvV_one [(spare, first)]) (by unfold maxLen; omega) (by omega) (by simp; omega) ?_)
        rintro v1 w2 h1 h2 h3 _
        obtain ⟨hS2, hP2, hA2, hB2⟩ := push_all IS.out IP.out IA.out IB.out h1 h2 h3 (fun a ha => by injection ha with ha; subst ha; exact hab)
        have hK1 := (IS.out.alloc (.cells #[.int .i64 spare, .int .i64 first] 38)).blk.grown h2 (IS.out.o1)
        have k2 := hK1.cell 2
        have k3 := frozen_of_row w2 sb 2 _ _ hK1
        simp at k2
        obtain ⟨A1, c1, hv1, _⟩ := own_shape h1
        subst hv1
        have hin := mem_tos (getI_some HG.out)
        have IR2 := Lib.hid (II.out.opens IR.out hin (fun t ht => drop_least HPW.out HFI.out (IT'.out t ht)))
        have IS2 := Lib.hid hS2
        have IP2 := Lib.hid hP2
        have IA2 := Lib.hid hA2
        have IB2 := Lib.hid hB2
        clear h1 h2 h3 hK1 hS2 hP2 hA2 hB2 s0 s1 s2 hlk c0 hin
        go_wp2_with fail
        go_loopw [10] (fun atv wi => InRel l spare first (n + 1) F base sb bf ba w (some ⟨ab, ao, none⟩) P atv wi) (fun _ wi => mapSize wi bf)
        case atStart => exact ⟨first, F, Ak, _, _, rfl, IS2.out, IR2.out, IP2.out, IA2.out, IB2.out⟩
        case round =>
          clear IS2 IR2 IP2 IA2 IB2 k2 k3 IS IP IA IB II
          obtain ⟨wi, rfl⟩ : ∃ wi : World, wi = wr := ⟨_, rfl⟩
          obtain ⟨at_, F1, Ak1, out1, ov1, rfl, hS, hI, hP, hA, hB⟩ := hrel
          obtain ⟨Ao1, co1, hov, _⟩ := own_shape hS.out
          subst hov
          obtain ⟨nx, hnx⟩ := of_tos hI.atin
          have hgI := getI_mem hI.fn hnx
          obtain ⟨s0, s1, s2⟩ := hS.cells
          have hlk := (hS.f.lookup (P := Try.prog) Try.underlying50 Try.underlying3 (zero_i64 _) at_).1
          rw [getM_ivs, hgI] at hlk
          simp only [Option.map_some, Option.getD_some] at hlk
          have hol1 : out1.length ≤ 512 := by have := hI.len; have := nt_len l; omega
          have hbi : base ≤ wi.heap.size := Nat.le_trans hS.lsb (Nat.le_of_lt hS.blk.lt)
          have hab1 : ab < wi.heap.size := by obtain ⟨b', o', e, hh⟩ := hP.addr (by omega); injection e with e; injection e with e; subst e; exact hh
          have IS := Lib.hid hS
          have II := Lib.hid hI
          have IP := Lib.hid hP
          have IA := Lib.hid hA
          have IB := Lib.hid hB
          have HNX := Lib.hid hnx
          clear hS hI hP hA hB hnx hgI
          by_cases hne : nx = first
          · rw [hne] at hlk HNX
            clear hne
            have hne' : (first != first) = false := by simp
            go_wp2_with (at_builtin; refine append_at _ rfl (.tmp 86) (.tmp 90) 22 rfl base 38 (.agg #[.int .i64 0, .int .i64 0]) 2 16 Try.underlying22 info_move rfl (by omega) _ out1.length (mvV out1) rfl (own_alloc IS.out.out _) (some ⟨wi.heap.size, 0, none⟩) 1 1 [.int .i64 at_, .int .i64 spare] rfl (Blk.srcAll (cs := #[.int .i64 at_, .int .i64 spare]) (Blk.new wi 38 _) rfl) (mvV_one [(at_, spare)]) (by unfold maxLen; omega) (by omega) (by simp; omega) ?_)
            rintro v1 w3 h1 h2 h3 _
            obtain ⟨hS3, hP3, hA3, hB3⟩ := push_all IS.out IP.out IA.out IB.out h1 h2 h3 (fun a ha => by injection ha with ha; subst ha; exact hab1)
            have hK1 := (IS.out.alloc (.cells #[.int .i64 at_, .int .i64 spare] 38)).blk.grown h2 (IS.out.o1)
            have k0 := hK1.cell 0
            have k2 := hK1.cell 2
            have k3 := frozen_of_row w3 sb 2 _ _ hK1
            simp at k0 k2
            obtain ⟨A3, c3, hv3, _⟩ := own_shape h1
            subst hv3
            have IS3 := Lib.hid hS3
            have IP3 := Lib.hid hP3
            have IA3 := Lib.hid hA3
            have IB3 := Lib.hid hB3
            have HSH := Lib.hid (II.out.shut HL.out HNX.out)
            have HFN := Lib.hid II.out.fn
            clear h1 h2 h3 hK1 hS3 hP3 hA3 hB3 s0 s1 s2 hlk
            go_wp2_with (at_delete; refine wp_del _ rfl _ _ 50 3 rfl 3 Try.underlying50 Try.underlying3 bf (ivs F1) at_ rfl rfl IS3.out.f ?_)
            rintro W4 hm4 hg4 hz4
            rw [delM_ivs, delI_eq HFN.out] at hm4
            obtain ⟨hS4, hP4, hB4⟩ := del_all IS3.out IP3.out IA3.out IB3.out hm4 hg4
            have IS4 := Lib.hid hS4
            have IP4 := Lib.hid hP4
            have IB4 := Lib.hid hB4
            clear hm4 hg4 hz4 hS4 hP4 hB4 k0 k2 k3
            go_wp2
            go_roundw
            case rel =>
              obtain ⟨q1, q2, q3, q4⟩ := HSH.out
              exact ⟨k + 1, n + 1, del F1 at_, Ak1, _, _, by simp, by simp, by omega, by omega, IS4.out, q1, q2, fun t ht => drop_next HFI.out (IT'.out t (q4 t ht)) (fun e => q3 (e ▸ ht)), IP4.out, IA3.out, IB4.out⟩
            case measure => simp [intOf]; omega
          · have hne' : (nx != first) = true := by simp [hne]
            have HNE := Lib.hid hne
            clear hne
            obtain ⟨i0, hi0, hz0, hz1, hz2⟩ := info_parts info_move
            have hsb := IS.out.blk.lt
            have f2 := frozen_of_row wi sb 2 _ _ IS.out.blk
            go_wp2
            have hlk' := look_im IS.out.f.drew II.out.fn HNX.out
            go_region_law
              ((refine step_append_lies _ (by rfl) _ _ _ (by rfl) base 38 i0 _ 2 16 Try.underlying22 hi0 hz0 hz1 hz2 rfl (by omega) _ out1.length (mvV out1) (by rfl) ((own_alloc IS.out.out _).drew)
                  ⟨wi.heap.size, 0, none⟩ 1 1 [.int .i64 at_, .int .i64 nx] (by rfl) (by rfl) (World.news_of_block (cs := #[.int .i64 at_, .int .i64 nx]) (t := 38) (fr := (0, 0)) (heap_alloc_new wi _)) (mvV_one [(at_, nx)])
                  (by omega) (by unfold maxLen; omega) (by omega) (by simp; omega) (wi.heap.size + 1) (by simp) ?_; intro gg cap w3 hown1 hgrow hat hlt3; have k2 := (srt_S' (IS.out.alloc _).drew hgrow II.out.fn HNX.out).2.2.1; have k3 := (srt_S' (IS.out.alloc _).drew hgrow II.out.fn HNX.out).2.2.2.1))
            all_goals
              obtain ⟨hS3, hP3, hA3, hB3⟩ := push_all IS.out IP.out IA.out IB.out hown1 (grown_undrew hgrow) (own_lies hat) (fun a ha => by injection ha with ha; subst ha; exact hab1)
              have IS3 := Lib.hid hS3
              have IP3 := Lib.hid hP3
              have IA3 := Lib.hid hA3
              have IB3 := Lib.hid hB3
              have HR3 := Lib.hid (II.out.next HL.out HNX.out HNE.out)
              have HMS := Lib.hid IS.out.f.size
              have HDL := Lib.hid (del_len II.out.fn HNX.out)
              have HFN := Lib.hid II.out.fn
              generalize w3.setCell ⟨sb, 2, none⟩ (.slice (some ⟨gg, 0, none⟩) (out1.length + 1) cap) = W3 at hS3 hP3 hB3 IS3 IP3 IB3 ⊢
              clear hS3 hP3 hA3 hB3 hown1 hgrow hat hlt3 k2 k3 s0 s1 s2 hlk hlk' f2 hsb hi0 hz0 hz1 hz2
              obtain ⟨s0, s1, s2⟩ := IS3.out.cells
              have hlk := look_im IS3.out.f HFN.out HNX.out
              go_wp2_with (at_delete; refine wp_del _ rfl _ _ 50 3 rfl 3 Try.underlying50 Try.underlying3 bf (ivs F1) at_ rfl rfl IS3.out.f ?_)
              rintro W4 hm4 hg4 hz4
              rw [delM_ivs, delI_eq HFN.out] at hm4
              obtain ⟨hS4, hP4, hB4⟩ := del_all IS3.out IP3.out IA3.out IB3.out hm4 hg4
              have HMS4 := Lib.hid hS4.f.size
              have IS4 := Lib.hid hS4
              have IP4 := Lib.hid hP4
              have IB4 := Lib.hid hB4
              clear hm4 hg4 hz4 hS4 hP4 hB4 s0 s1 s2 hlk
              go_wp2
              go_roundw
              case rel => exact ⟨nx, del F1 at_, Ak1, _, _, rfl, IS4.out, HR3.out, IP4.out, IA3.out, IB4.out⟩
              case measure =>
                rw [HMS4.out, HMS.out]
                have := HDL.out
                simp [ivs]
                omega
    · have hlt' : decide ((k : Int) < P.length) = false := by simp; omega
      have hF0 : F = [] := by
        cases F with
        | nil => rfl
        | cons p F =>
          have := hT p.1 (by simp [tos])
          rw [List.drop_eq_nil_of_le (by omega)] at this
          simp at this
      subst hF0
      have IS := Lib.hid hS
      have II := Lib.hid hI
      have IB := Lib.hid hB
      clear hS hI hR hT hP hA hB
      go_wp2
      go_ret
      exact ⟨n, Ak, out, ov, rfl, IS.out, II.out, IB.out⟩
end Go.Proofs.Ytbnfhcdodejmhaa
