/-
  free: all moves to places for which no move waits.
  Conditions: the row of places is the call's own.
-/
import Derived.Test.YtbnfhcdodejmhaaMovBegin
namespace Go.Bk.Mov
open Go
theorem take_init {todo : List Int} {t : Int} {r : List Int} (h : todo = r ++ [t]) : todo.length = r.length + 1 := by rw [h]; simp
theorem count_zero {F : List Mv} {t : Int} (h : (froms F).count t = 0) : ∀ a, (a, t) ∉ F := fun a ha => by
  have := List.count_pos_iff.2 (mem_froms ha)
  omega
theorem count_pos {F : List Mv} {t : Int} (h : 0 < (froms F).count t) : t ∈ froms F := List.count_pos_iff.1 h
end Go.Bk.Mov
namespace Go.Proofs.Ytbnfhcdodejmhaa
open Go.RowKit Go.Bk Go.Bk.Mov
set_option linter.unusedVariables false
set_option linter.unusedSimpArgs false

/-- what free keeps: the moves that are left and laid, and that each place for which nobody waits is still to be looked at -/
structure FrInv (l : List Mv) (spare : Int) (F Ak out : List Mv) (todo : List Int) : Prop where
  s : SInv l F out spare 0
  ask : AskOk Ak F
  todo : ∀ t, t ∈ tos F → (froms F).count t = 0 → t ∈ todo

theorem FrInv.skip {l F Ak out : List Mv} {spare t : Int} {r : List Int} (h : FrInv l spare F Ak out (r ++ [t])) (hn : t ∉ tos F ∨ 0 < (froms F).count t) : FrInv l spare F Ak out r :=
  ⟨h.s, h.ask, fun x hx h0 => by
    rcases List.mem_append.1 (h.todo x hx h0) with hh | hh
    · exact hh
    · simp at hh
      subst hh
      rcases hn with hn | hn
      · exact absurd hx hn
      · omega⟩
theorem FrInv.take {l F Ak out : List Mv} {spare t f : Int} {r : List Int} (h : FrInv l spare F Ak out (r ++ [t])) (hl : Mov.Fn l) (hm : (t, f) ∈ F) (h0 : (froms F).count t = 0) :
    FrInv l spare (del F t) (updI Ak f ((getI Ak f).getD 0 - 1)) (out ++ [(t, f)]) (r ++ [f]) :=
  ⟨h.s.free hl hm (count_zero h0), h.ask.less h.s.fn hm, fun x hx hc => by
    obtain ⟨g, hg⟩ := of_tos hx
    obtain ⟨h1, h2⟩ := mem_del.1 hg
    have := count_del h.s.fn hm x
    by_cases e : x = f
    · simp [e]
    · rw [if_neg e] at this
      have hx0 : (froms F).count x = 0 := by omega
      rcases List.mem_append.1 (h.todo x (mem_tos h1) hx0) with hh | hh
      · simp [hh]
      · simp at hh
        exact absurd hh h2⟩
theorem FrInv.done {l F Ak out : List Mv} {spare : Int} (h : FrInv l spare F Ak out []) : Rings F :=
  rings_of h.s.fn fun t ht => by
    refine count_pos ?_
    rcases Nat.eq_zero_or_pos ((froms F).count t) with h0 | h0
    · have := h.todo t ht h0
      simp at this
    · exact h0

/-- the sorter and the row of places, in a world -/
def FrRel (l : List Mv) (spare : Int) (w : World) (base sb bf ba : Nat) (v : Value) (wr : World) : Prop :=
  ∃ F Ak out ov todo A c, v = .slice A todo.length c ∧ Srt wr base sb bf ba F Ak out ov ∧ wr.ownsRow base 3 1 v todo.length (i64s todo) ∧ v.ownBlock ≠ some sb ∧ v.ownBlock ≠ some bf ∧ v.ownBlock ≠ some ba ∧ (∀ g, v.ownBlock = some g → ov.ownBlock ≠ some g) ∧ FrInv l spare F Ak out todo ∧ Below base w wr ∧ base ≤ wr.heap.size ∧ todo.length ≤ 256

def FrPost (l : List Mv) (spare : Int) (base sb bf ba : Nat) (w : World) (e : Ending) (w' : World) : Prop :=
  ∃ F Ak out ov, e = .returned (.tuple #[]) ∧ Srt w' base sb bf ba F Ak out ov ∧ SInv l F out spare 0 ∧ Rings F ∧ Below base w w'

set_option maxRecDepth 100000 in
set_option maxHeartbeats 4000000 in
theorem free_any (l : List Mv) (spare : Int) (base sb bf ba : Nat) (A : Option Addr) (n c : Nat) (w : World) (hl : Mov.Fn l) (hl2 : l.length ≤ 256) (h : FrRel l spare w base sb bf ba (.slice A n c) w) :
    Calls Try.prog 26 #[.pointer (some ⟨sb, 0, none⟩), .slice A n c] w (FrPost l spare base sb bf ba w) := by
  have H := Lib.hid h
  have HL := Lib.hid hl
  clear h hl
  go_enter Try.func26, Try.ntmps26
  go_wp2
  go_loopw [1] (fun v wr => FrRel l spare w base sb bf ba v wr) (fun v wr => 2 * mapSize wr bf + sliceLen v)
  case atStart => exact H.out
  case round =>
    clear H
    obtain ⟨F, Ak, out, ov, todo, A, c, rfl, hS, hO, v1, v2, v3, v4, hI, hB, hbz, hlen⟩ := hrel
    rcases List.eq_nil_or_concat todo with rfl | ⟨r, t, rfl⟩
    · have hS' := Lib.hid hS
      have hI' := Lib.hid hI
      have hB' := Lib.hid hB
      clear hS hO v1 v2 v3 v4 hI hB
      go_wp2
      go_end0
      exact ⟨F, Ak, out, ov, rfl, hS'.out, hI'.out.s, hI'.out.done, hB'.out⟩
    · rw [List.concat_eq_append] at *
      have hrl : (r ++ [t]).length = r.length + 1 := by simp
      have hms := hS.f.size
      rw [hrl] at hO hlen v1 v2 v3 v4 ⊢
      obtain ⟨g, c', e, hgl, hge, hnc⟩ := own_at hO (by omega)
      injection e with e1 e2 e3
      subst e1
      subst e3
      have hcl := (Bk.Src.of_own hO).at_ (k := r.length) (by omega)
      rw [i64s_at (by simp)] at hcl
      simp only [List.getElem_append_right (Nat.le_refl _), Nat.sub_self, List.getElem_cons_zero, Nat.zero_add] at hcl
      obtain ⟨Ao, co, hov, _⟩ := own_shape hS.out
      subst hov
      obtain ⟨s0, s1, s2⟩ := hS.cells
      have hlk := (hS.f.lookup (P := Try.prog) Try.underlying50 Try.underlying3 (zero_i64 _) t).2
      rw [getM_ivs] at hlk
      have IS := Lib.hid hS
      have iO := Lib.hid hO
      have II := Lib.hid hI
      have IB := Lib.hid hB
      have HV1 := Lib.hid v1
      have HV2 := Lib.hid v2
      have HV3 := Lib.hid v3
      have HV4 := Lib.hid v4
      have HMS := Lib.hid hms
      obtain ⟨m, hm⟩ : ∃ m, r.length = m := ⟨_, rfl⟩
      rw [hm] at hcl hlen hnc ⊢
      have hmc : (m : Int) ≤ c := by omega
      have hmc0 : m ≤ c := by omega
      have HM := Lib.hid hm
      clear hS hO hI hB v1 v2 v3 v4 hms hrl hm
      cases hgt : getI F t with
      | none =>
        rw [hgt] at hlk
        simp only [Option.map_none, Option.getD_none, Option.isSome_none] at hlk
        have HG := Lib.hid hgt
        clear hgt
        go_wp2
        go_roundw
        case rel =>
          have hr := iO.out
          rw [HM.out] at hr
          have ho := own_take (k := m) hr (by omega) (by simp)
          rw [Nat.mul_one, i64s_take, List.take_append_of_le_length (by rw [HM.out]; exact Nat.le_refl _), List.take_of_length_le (by rw [HM.out]; exact Nat.le_refl _)] at ho
          rw [← HM.out] at ho ⊢
          exact ⟨F, Ak, out, _, r, _, _, rfl, IS.out, ho, HV1.out, HV2.out, HV3.out, HV4.out, II.out.skip (.inl (getI_none HG.out)), IB.out, hbz, by rw [HM.out]; omega⟩
        case measure => simp [sliceLen]
      | some f =>
        rw [hgt] at hlk
        simp only [Option.map_some, Option.getD_some, Option.isSome_some] at hlk
        have HG := Lib.hid hgt
        clear hgt
        have hlk2 := (IS.out.a.lookup (P := Try.prog) Try.underlying50 Try.underlying3 (zero_i64 _) t).1
        obtain ⟨ct, hct⟩ : ∃ ct, (getI Ak t).getD 0 = ct := ⟨_, rfl⟩
        rw [getM_ivs, show ((getI Ak t).map (Value.int .i64)).getD (.int .i64 0) = .int .i64 ct from by rw [← hct]; cases getI Ak t <;> rfl] at hlk2
        have HCT := Lib.hid (show ct = ((froms F).count t : Int) by rw [← hct]; exact II.out.ask t)
        clear hct
        by_cases hpos : 0 < ct
        · have hpos' : decide (0 < ct) = true := by simpa using hpos
          go_wp2
          go_roundw
          case rel =>
            have hr := iO.out
            rw [HM.out] at hr
            have ho := own_take (k := m) hr (by omega) (by simp)
            rw [Nat.mul_one, i64s_take, List.take_append_of_le_length (by rw [HM.out]; exact Nat.le_refl _), List.take_of_length_le (by rw [HM.out]; exact Nat.le_refl _)] at ho
            rw [← HM.out] at ho ⊢
            exact ⟨F, Ak, out, _, r, _, _, rfl, IS.out, ho, HV1.out, HV2.out, HV3.out, HV4.out, II.out.skip (.inr (by have := HCT.out; omega)), IB.out, hbz, by rw [HM.out]; omega⟩
          case measure => simp [sliceLen]
        · have hpos' : decide (0 < ct) = false := by simpa using hpos
          have hol : out.length ≤ 256 := by
            have := II.out.s.len
            have h2 := nontriv_len l l.length
            rw [List.take_of_length_le (Nat.le_refl _)] at h2
            omega
          have hFm := getI_some HG.out
          have HC0 := Lib.hid (show (froms F).count t = 0 by have := HCT.out; omega)
          have HFM := Lib.hid hFm
          clear hFm
          go_wp2_with (at_builtin; refine append_at _ rfl (.tmp 45) (.tmp 49) 22 rfl base 38 (.agg #[.int .i64 0, .int .i64 0]) 2 16 Try.underlying22 info_move rfl (by omega) _ out.length (mvV out) rfl (own_alloc IS.out.out _) (some ⟨wr.heap.size, 0, none⟩) 1 1 [.int .i64 t, .int .i64 f] rfl (Blk.srcAll (cs := #[.int .i64 t, .int .i64 f]) (Blk.new wr 38 _) rfl) (mvV_one [(t, f)]) (by unfold maxLen; omega) (by omega) (by simp; omega) ?_)
          rintro v1 w1 h1 h2 h3 _
          have hgs : g ≠ sb := fun e => HV1.out (by rw [e]; rfl)
          have hgf : g ≠ bf := fun e => HV2.out (by rw [e]; rfl)
          have hga : g ≠ ba := fun e => HV3.out (by rw [e]; rfl)
          have hgo : v1.ownBlock ≠ some g := by
            rcases h3 with e | e
            · rw [e]; exact HV4.out g rfl
            · rw [e]; intro e'; injection e' with e'; omega
          have hr := iO.out
          rw [HM.out] at hr
          have ho := own_take (k := m) hr (by omega) (by simp)
          rw [Nat.mul_one, i64s_take, List.take_append_of_le_length (by rw [HM.out]; exact Nat.le_refl _), List.take_of_length_le (by rw [HM.out]; exact Nat.le_refl _)] at ho
          have IO1 := Lib.hid (own_other (k := 2) (u := v1) (own_grown (own_alloc ho (.cells #[.int .i64 t, .int .i64 f] 38)) h2 (fun k hk => by injection hk with hk; subst hk; exact HV4.out g rfl)) (fun e => hgs (by injection e)))
          have IS1 := Lib.hid ((IS.out.alloc (.cells #[.int .i64 t, .int .i64 f] 38)).push h2 h1 (h3.imp id fun e => ⟨_, by simp, e⟩))
          have IB1 := Lib.hid ((below_grown (IB.out.alloc hbz (.cells #[.int .i64 t, .int .i64 f] 38)) h2 (by simp; omega) (fun k hk => (IS.out.out.lt k hk).1)).setCell (p := ⟨sb, 2, none⟩) IS.out.lsb v1)
          have hK1 := (IS.out.alloc (.cells #[.int .i64 t, .int .i64 f] 38)).blk.grown h2 (IS.out.o1)
          have k0 := hK1.cell 0
          have k1 := hK1.cell 1
          have k2 := hK1.cell 2
          have k3 := frozen_of_row w1 sb 2 _ _ hK1
          simp at k0 k1 k2
          obtain ⟨A1, c1, hv1, _⟩ := own_shape h1
          subst hv1
          clear hK1 h1 h2 h3 hr ho s0 s1 s2 hlk hlk2 hcl
          go_wp2_with (at_delete; refine wp_del _ rfl _ _ 50 3 rfl 3 Try.underlying50 Try.underlying3 bf (ivs F) t rfl rfl IS1.out.f ?_)
          rintro W2 hm2 hg2 hz2
          rw [delM_ivs, delI_eq II.out.s.fn] at hm2
          have IS2 := Lib.hid (IS1.out.putF hg2 hm2)
          have IB2 := Lib.hid (below_grown IB1.out hg2 (Nat.le_trans IS1.out.lsb (Nat.le_of_lt IS1.out.blk.lt)) (fun k hk => by injection hk with hk; rw [← hk]; exact IS1.out.lbf))
          have IO2 := Lib.hid (own_grown IO1.out hg2 (fun k hk e => hgf (by injection hk with hk; injection e with e; exact (show g = k from hk).trans e.symm)))
          clear hm2 hg2 hz2 k0 k1 k2 k3 IS1 IB1 IO1
          obtain ⟨s0, s1, s2⟩ := IS2.out.cells
          obtain ⟨cf, hcf⟩ : ∃ cf, (getI Ak f).getD 0 = cf := ⟨_, rfl⟩
          have hlk := (IS2.out.a.lookup (P := Try.prog) Try.underlying50 Try.underlying3 (zero_i64 _) f).1
          rw [getM_ivs, show ((getI Ak f).map (Value.int .i64)).getD (.int .i64 0) = .int .i64 cf from by rw [← hcf]; cases getI Ak f <;> rfl] at hlk
          have hcb := II.out.ask.bound f
          rw [hcf] at hcb
          have hFl : F.length ≤ 256 := by
            have := II.out.s.len
            have h2 := nontriv_len l l.length
            rw [List.take_of_length_le (Nat.le_refl _)] at h2
            omega
          have HCF := Lib.hid hcf
          clear hcf
          go_wp2_with (at_mapUpdate; refine wp_upd _ rfl _ _ _ 50 rfl 3 3 Try.underlying50 Try.underlying3 ba (ivs Ak) f (.int .i64 (cf - 1)) rfl rfl rfl IS2.out.a ?_)
          rintro W3 hm3 hg3 hz3
          rw [updM_ivs] at hm3
          have IS3 := Lib.hid (IS2.out.putA hg3 hm3)
          have IB3 := Lib.hid (below_grown IB2.out hg3 (Nat.le_trans IS2.out.lsb (Nat.le_of_lt IS2.out.blk.lt)) (fun k hk => by injection hk with hk; rw [← hk]; exact IS2.out.lba))
          have IO3 := Lib.hid (own_grown IO2.out hg3 (fun k hk e => hga (by injection hk with hk; injection e with e; exact (show g = k from hk).trans e.symm)))
          clear hm3 hg3 hz3 s0 s1 s2 IS2 IB2 IO2 hlk
          have hb3 : base ≤ W3.heap.size := Nat.le_trans IS3.out.lsb (Nat.le_of_lt IS3.out.blk.lt)
          have hg3 : g < W3.heap.size := (IO3.out.lt g rfl).2
          go_wp2_with (at_builtin; refine append_at _ rfl (.tmp 65) (.tmp 67) 43 rfl base 3 (.int .i64 0) 1 8 Try.underlying43 info_i64 rfl (by omega) _ m (i64s r) rfl (own_alloc IO3.out _) (some ⟨W3.heap.size, 0, none⟩) 1 1 [.int .i64 f] rfl (src_one _ _ _) (one_int _ _) (by unfold maxLen; omega) (by omega) (by simp; omega) ?_)
          rintro v4 w4 h1 h2 h3 _
          have hlF := del_len II.out.s.fn HFM.out
          have IS4 := Lib.hid ((IS3.out.alloc (.cells #[.int .i64 f] 3)).grown h2 (fun e => hgs (by injection e)) (fun e => hgf (by injection e)) (fun e => hga (by injection e)) (fun k hk e => hgo (by rw [hk, ← e]; rfl)))
          have IB4 := Lib.hid (below_grown (IB3.out.alloc hb3 (.cells #[.int .i64 f] 3)) h2 (by simp; omega) (fun k hk => by injection hk with hk; exact (show g = k from hk) ▸ hge))
          have II4 := Lib.hid (II.out.take HL.out HFM.out HC0.out)
          rw [HCF.out] at II4
          have hms4 := IS4.out.f.size
          have n1 := IS4.out.blk.lt
          have n2 := IS4.out.f.lt
          have n3 := IS4.out.a.lt
          have m1 := IS3.out.blk.lt
          have m2 := IS3.out.f.lt
          have m3 := IS3.out.a.lt
          have IV1 := Lib.hid (show v4.ownBlock ≠ some sb by
            rcases h3 with e | e
            · rw [e]; exact fun e => hgs (by injection e)
            · rw [e]; intro e'; injection e' with e'; omega)
          have IV2 := Lib.hid (show v4.ownBlock ≠ some bf by
            rcases h3 with e | e
            · rw [e]; exact fun e => hgf (by injection e)
            · rw [e]; intro e'; injection e' with e'; omega)
          have IV3 := Lib.hid (show v4.ownBlock ≠ some ba by
            rcases h3 with e | e
            · rw [e]; exact fun e => hga (by injection e)
            · rw [e]; intro e'; injection e' with e'; omega)
          have hob : ∀ k, (Value.slice A1 (out.length + 1) c1).ownBlock = some k → k < W3.heap.size := fun k hk => (IS3.out.out.lt k hk).2
          have IV4 := Lib.hid (show ∀ k, v4.ownBlock = some k → (Value.slice A1 (out.length + 1) c1).ownBlock ≠ some k from fun k hk => by
            rcases h3 with e | e
            · rw [e] at hk; injection hk with hk; rw [← hk]; exact hgo
            · rw [e] at hk; injection hk with hk; intro e'; have := hob k e'; omega)
          obtain ⟨A4, c4, hv4, _⟩ := own_shape h1
          have IO4 := Lib.hid h1
          have hz4 : base ≤ w4.heap.size := Nat.le_trans IS4.out.lsb (Nat.le_of_lt n1)
          have HMS4 := Lib.hid hms4
          have HV := Lib.hid hv4
          have HLF := Lib.hid hlF
          clear h1 h2 h3 hob hms4 n1 n2 n3 m1 m2 m3 hv4 hlF
          go_wp2
          go_roundw
          case rel =>
            have e4 : (r ++ [f]).length = m + 1 := by simp; exact HM.out
            refine ⟨_, _, _, _, r ++ [f], A4, c4, by rw [e4]; exact HV.out, IS4.out, ?_, IV1.out, IV2.out, IV3.out, IV4.out, II4.out, IB4.out, hz4, by rw [e4]; omega⟩
            rw [e4, i64s_app]
            exact IO4.out
          case measure =>
            rw [HMS4.out, HMS.out, HV.out]
            have := HLF.out
            simp [ivs, sliceLen]
            omega
end Go.Proofs.Ytbnfhcdodejmhaa
