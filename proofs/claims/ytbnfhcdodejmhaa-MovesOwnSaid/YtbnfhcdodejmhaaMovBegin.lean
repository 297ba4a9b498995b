/-
  begin: the sorter of moves that may be.
  Conditions: no two moves are to one place.
-/
import Derived.Test.YtbnfhcdodejmhaaMovSrt
namespace Go.Proofs.Ytbnfhcdodejmhaa
open Go.RowKit Go.Bk Go.Bk.Mov
set_option linter.unusedVariables false
set_option linter.unusedSimpArgs false

def BePost (l : List Mv) (w : World) (e : Ending) (w' : World) : Prop :=
  ∃ sb bf ba Ak, e = .returned (.pointer (some ⟨sb, 0, none⟩)) ∧ Srt w' w.heap.size sb bf ba (nontriv l) Ak [] (.slice none 0 0) ∧ AskOk Ak (nontriv l) ∧ Below w.heap.size w w'

def BeRel (l : List Mv) (n : Nat) (w : World) (i : Value) (wr : World) : Prop :=
  ∃ (k : Nat) (Ak : List Mv), k ≤ n ∧ i = .int .i64 k ∧ Srt wr w.heap.size (w.heap.size + 1 + 1) w.heap.size (w.heap.size + 1) (nontriv (l.take k)) Ak [] (.slice none 0 0) ∧ AskOk Ak (nontriv (l.take k)) ∧ Below w.heap.size w wr

theorem nontriv_yes {l : List Mv} {k : Nat} {p : Mv} (h : l[k]? = some p) (hn : p.1 ≠ p.2) : nontriv (l.take (k + 1)) = nontriv (l.take k) ++ [p] := by
  obtain ⟨hk, e⟩ := List.getElem?_eq_some_iff.1 h
  unfold nontriv
  rw [List.take_succ_eq_append_getElem hk, List.filter_append, e]
  simp [hn]
theorem nontriv_no {l : List Mv} {k : Nat} {p : Mv} (h : l[k]? = some p) (hn : p.1 = p.2) : nontriv (l.take (k + 1)) = nontriv (l.take k) := by
  obtain ⟨hk, e⟩ := List.getElem?_eq_some_iff.1 h
  unfold nontriv
  rw [List.take_succ_eq_append_getElem hk, List.filter_append, e]
  simp [hn]
theorem nontriv_len (l : List Mv) (k : Nat) : (nontriv (l.take k)).length ≤ l.length := by
  unfold nontriv
  refine Nat.le_trans (List.length_filter_le _ _) ?_
  rw [List.length_take]; omega
theorem fn_new {l : List Mv} (hf : Mov.Fn l) {k : Nat} {p : Mv} (h : l[k]? = some p) : p.1 ∉ tos (nontriv (l.take k)) := by
  intro hin
  obtain ⟨f, hm⟩ := of_tos hin
  have hm1 := (mem_nontriv.1 hm).1
  obtain ⟨hk, e⟩ := List.getElem?_eq_some_iff.1 h
  have hnd : (tos (l.take k ++ l.drop k)).Nodup := by rw [List.take_append_drop]; exact hf
  unfold tos at hnd
  rw [List.map_append, List.nodup_append] at hnd
  have hd : p ∈ l.drop k := by rw [List.drop_eq_getElem_cons hk, e]; simp
  exact hnd.2.2 p.1 (List.mem_map.2 ⟨_, hm1, rfl⟩) p.1 (List.mem_map.2 ⟨_, hd, rfl⟩) rfl

set_option maxRecDepth 100000 in
set_option maxHeartbeats 2000000 in
theorem begin_any (A : Option Addr) (n c : Nat) (l : List Mv) (w : World) (hs : Bk.Src w A (n * 2) (mvV l)) (hf : Mov.Fn l) (hn : n ≤ 256) : Calls Try.prog 25 #[.slice A n c] w (BePost l w) := by
  have hl : l.length = n := by have := hs.1; rw [mvV_len] at this; omega
  have hm1 : ∀ w, (Instr.makeMap 50 none).run Try.prog w = .ok (.map (some w.heap.size)) (w.alloc (.map #[] 0)) := fun w => by simp [Instr.makeMap]
  have HS := Lib.hid hs
  have HF := Lib.hid hf
  have HL := Lib.hid hl
  clear hs hf hl
  go_enter Try.func25, Try.ntmps25
  go_wp2
  have H0 := Lib.hid (show Srt (((w.alloc (.map #[] 0)).alloc (.map #[] 0)).alloc (.cells #[.map (some w.heap.size), .map (some (w.heap.size + 1)), .slice none 0 0] 52)) w.heap.size (w.heap.size + 1 + 1) w.heap.size (w.heap.size + 1) (nontriv (l.take 0)) [] [] (.slice none 0 0) from
    ⟨Blk.newAt _ _ _ (by simp), ((IM.new w).alloc _).alloc _, (IM.newAt (by simp)).alloc _, World.ownsRow_nil _ _ _ _, by omega, by omega, by omega, by omega, by omega, by omega, by simp [Value.ownBlock], by simp [Value.ownBlock], by simp [Value.ownBlock]⟩)
  go_loopw [12] (fun i wr => BeRel l n w i wr) (fun i _ => n - (intOf i).toNat)
  case atStart => exact ⟨0, [], by omega, rfl, H0.out, AskOk.nil, (((Below.refl _ _).alloc (Nat.le_refl _) _).alloc (by simp) _).alloc (by simp; omega) _⟩
  case round =>
    obtain ⟨k, Ak, hk, rfl, hS, hA, hB⟩ := hrel
    have IS := Lib.hid hS
    have IA := Lib.hid hA
    have IB := Lib.hid hB
    clear hS hA hB H0
    by_cases hlt : k < n
    · have hlt' : decide ((k : Int) < n) = true := by simp; omega
      have hlt2 : (k : Int) < n := by omega
      obtain ⟨ab, ao, rfl, hab⟩ := HS.out.addr (by omega)
      obtain ⟨p, hp⟩ : ∃ p, l[k]? = some p := ⟨_, List.getElem?_eq_getElem (by rw [HL.out]; exact hlt)⟩
      obtain ⟨t, f⟩ := p
      obtain ⟨c0, c1⟩ := mv_cells (HS.out.below IB.out (Nat.le_refl _)) hp
      have hz : ab < wr.heap.size := Nat.lt_of_lt_of_le hab IB.out.size
      have HP := Lib.hid hp
      clear hp
      have hsz := IS.out.blk.lt
      by_cases htf : t = f
      · have htf' : (t != f) = false := by simp [htf]
        have HTF := Lib.hid htf
        clear htf
        go_wp2
        go_roundw
        case rel => exact ⟨k + 1, Ak, by omega, by simp, by rw [nontriv_no HP.out HTF.out]; exact IS.out.alloc _, by rw [nontriv_no HP.out HTF.out]; exact IA.out, IB.out.alloc IB.out.size _⟩
        case measure => simp [intOf]; omega
      · have htf' : (t != f) = true := by simp [htf]
        have HTF := Lib.hid htf
        clear htf
        have IS1 := Lib.hid (IS.out.alloc (.cells #[.int .i64 t, .int .i64 f] 38))
        have IX := Lib.hid (Blk.new wr 38 #[.int .i64 t, .int .i64 f])
        have IB1 := Lib.hid (IB.out.alloc IB.out.size (.cells #[.int .i64 t, .int .i64 f] 38))
        go_wp2
        generalize wr.alloc (.cells #[.int .i64 t, .int .i64 f] 38) = W1 at IS1 IX IB1 ⊢
        obtain ⟨s0, s1, s2⟩ := IS1.out.cells
        have x0 := IX.out.cell 0
        have x1 := IX.out.cell 1
        simp at x0 x1
        clear c0 c1
        go_still_tail 8, (by kernel_rfl)
        change wpList _ _ _ _ _ W1.drew
        refine wp_upd _ rfl _ _ _ 50 rfl 3 3 Try.underlying50 Try.underlying3 w.heap.size (ivs (nontriv (l.take k))) t (.int .i64 f) rfl rfl rfl IS1.out.f.drew ?_
        rintro W2 hm2 hg2 hz2
        rw [updM_ivs, updI_new (fn_new HF.out HP.out)] at hm2
        have IS2 := Lib.hid (IS1.out.drew.putF hg2 hm2)
        have IX2 := Lib.hid (IX.out.drew.grown hg2 (fun e => by injection e with e; omega))
        have IB2 := Lib.hid (below_grown IB1.out.drew hg2 IB1.out.size (fun k hk => by injection hk with hk; omega))
        clear hm2 hg2 hz2 s0 s1 s2 x0 x1 IS1 IX IB1
        go_wp2
        obtain ⟨s0, s1, s2⟩ := IS2.out.cells
        have x0 := IX2.out.cell 0
        have x1 := IX2.out.cell 1
        simp at x0 x1
        obtain ⟨cf, hcf⟩ : ∃ cf, (getI Ak f).getD 0 = cf := ⟨_, rfl⟩
        have hlk := (IS2.out.a.drew.lookup (P := Try.prog) Try.underlying50 Try.underlying3 (zero_i64 _) f).1
        rw [getM_ivs] at hlk
        have hlv : ((getI Ak f).map (Value.int .i64)).getD (.int .i64 0) = .int .i64 cf := by rw [← hcf]; cases getI Ak f <;> rfl
        rw [hlv] at hlk
        have hcb := IA.out.bound f
        rw [hcf] at hcb
        have hln := nontriv_len l k
        rw [HL.out] at hln
        have hwr : IntKind.i64.wrap (cf + 1) = cf + 1 := IntWalk.i64_in _ (by omega)
        have HCF := Lib.hid hcf
        clear hcf hlv
        go_still_tail 8, (by kernel_rfl)
        change wpList _ _ _ _ _ W2.drew
        refine wp_upd _ rfl _ _ _ 50 rfl 3 3 Try.underlying50 Try.underlying3 (w.heap.size + 1) (ivs Ak) f (.int .i64 (cf + 1)) rfl rfl rfl IS2.out.a.drew ?_
        rintro W3 hm3 hg3 hz3
        rw [updM_ivs] at hm3
        have IS3 := Lib.hid (IS2.out.drew.putA hg3 hm3)
        have IB3 := Lib.hid (below_grown IB2.out.drew hg3 IB2.out.size (fun k hk => by injection hk with hk; omega))
        have IA3 := Lib.hid (IA.out.more t f)
        rw [HCF.out] at IA3
        clear hm3 hg3 hz3 s0 s1 s2 x0 x1 IS2 IX2 IB2 hwr hcb hlk
        go_wp2
        go_roundw
        case rel =>
          refine ⟨k + 1, updI Ak f (cf + 1), by omega, by simp, ?_, ?_, IB3.out⟩
          · rw [nontriv_yes HP.out HTF.out]; exact IS3.out
          · rw [nontriv_yes HP.out HTF.out]; exact IA3.out
        case measure => simp [intOf]; omega
    · have hlt' : decide ((k : Int) < n) = false := by simp; omega
      obtain rfl : k = n := by omega
      go_wp2
      go_ret
      have e : l.take k = l := List.take_of_length_le (by rw [HL.out]; exact Nat.le_refl _)
      have h1 := IS.out
      have h2 := IA.out
      rw [e] at h1 h2
      exact ⟨_, _, _, Ak, rfl, h1, h2, IB.out⟩
end Go.Proofs.Ytbnfhcdodejmhaa
