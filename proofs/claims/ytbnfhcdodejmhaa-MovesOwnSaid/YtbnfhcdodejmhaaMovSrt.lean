/-
  The sorter of moves in memory: two maps and a row of the call's own, and how each is turned.
  Conditions: none.
-/
import Derived.Test.YtbnfhcdodejmhaaGRange
import Derived.Test.YtbnfhcdodejmhaaSrt
import Derived.Test.YtbnfhcdodejmhaaMovRing
import Derived.Test.YtbnfhcdodejmhaaRows1
import Derived.Test.YtbnfhcdodejmhaaChecked
import Derived.StillTailTactics
namespace Go.Bk.Mov
open Go Go.Bk Go.RowKit

def mvV : List Mv → List Value
  | [] => []
  | p :: l => .int .i64 p.1 :: .int .i64 p.2 :: mvV l
theorem mvV_len : ∀ l : List Mv, (mvV l).length = l.length * 2
  | [] => rfl
  | p :: l => by simp [mvV, mvV_len l]; omega
theorem mvV_app : ∀ a b : List Mv, mvV (a ++ b) = mvV a ++ mvV b
  | [], b => rfl
  | p :: a, b => by simp [mvV, mvV_app a b]
theorem mvV_one : ∀ (l : List Mv), ∀ u ∈ mvV l, u.oneCell' = true
  | [], u, h => by simp [mvV] at h
  | p :: l, u, h => by
    simp only [mvV, List.mem_cons] at h
    rcases h with rfl | rfl | h
    · rfl
    · rfl
    · exact mvV_one l u h
theorem mvV_at : ∀ {l : List Mv} {k : Nat} {p : Mv}, l[k]? = some p → (mvV l)[k * 2]? = some (.int .i64 p.1) ∧ (mvV l)[k * 2 + 1]? = some (.int .i64 p.2)
  | [], k, p, h => by simp at h
  | q :: l, 0, p, h => by
    simp at h
    subst h
    simp [mvV]
  | q :: l, k + 1, p, h => by
    simp at h
    have := mvV_at h
    rw [show (k + 1) * 2 = k * 2 + 2 from by omega, show k * 2 + 2 + 1 = k * 2 + 1 + 2 from by omega]
    simpa [mvV] using this
/-- two cells of a row of moves -/
theorem mv_cells {w : World} {b o n : Nat} {l : List Mv} (h : Bk.Src w (some ⟨b, o, none⟩) (n * 2) (mvV l)) {k : Nat} {p : Mv} (hk : l[k]? = some p) :
    w.cell? ⟨b, o + k * 2, none⟩ = some (.int .i64 p.1) ∧ w.cell? ⟨b, o + k * 2 + 1, none⟩ = some (.int .i64 p.2) := by
  obtain ⟨h1, h2⟩ := mvV_at hk
  have hn : 0 < n * 2 := by
    have := h.1
    have hk' := (List.getElem?_eq_some_iff.1 hk).1
    rw [mvV_len] at this
    omega
  obtain ⟨b', o', e, _, hc⟩ := h.2 hn
  injection e with e
  injection e with e1 e2
  subst e1
  subst e2
  exact ⟨hc _ _ h1, hc _ _ h2⟩

def ivs (L : List Mv) : KV := L.map fun p => (p.1, .int .i64 p.2)
def getI : List Mv → Int → Option Int
  | [], _ => none
  | p :: r, k => if k = p.1 then some p.2 else getI r k
def updI : List Mv → Int → Int → List Mv
  | [], k, v => [(k, v)]
  | p :: r, k, v => if k = p.1 then (p.1, v) :: r else p :: updI r k v
def delI : List Mv → Int → List Mv
  | [], _ => []
  | p :: r, k => if k = p.1 then r else p :: delI r k
theorem getM_ivs : ∀ (L : List Mv) (k : Int), getM (ivs L) k = (getI L k).map (Value.int .i64)
  | [], _ => rfl
  | p :: r, k => by
    have := getM_ivs r k
    simp only [ivs] at this
    simp only [ivs, List.map_cons, getM, getI]
    by_cases h : k = p.1 <;> simp [h]
    simpa [h] using this
theorem updM_ivs : ∀ (L : List Mv) (k v : Int), updM (ivs L) k (.int .i64 v) = ivs (updI L k v)
  | [], _, _ => rfl
  | p :: r, k, v => by
    have := updM_ivs r k v
    simp only [ivs] at this
    simp only [ivs, List.map_cons, updM, updI]
    by_cases h : k = p.1
    · simp [h]
    · simp [h, this]
theorem delM_ivs : ∀ (L : List Mv) (k : Int), delM (ivs L) k = ivs (delI L k)
  | [], _ => rfl
  | p :: r, k => by
    have := delM_ivs r k
    simp only [ivs] at this
    simp only [ivs, List.map_cons, delM, delI]
    by_cases h : k = p.1
    · simp [h]
    · simp [h, this]
theorem getI_some : ∀ {L : List Mv} {k v : Int}, getI L k = some v → (k, v) ∈ L
  | [], _, _, h => by simp [getI] at h
  | p :: r, k, v, h => by
    simp only [getI] at h
    by_cases e : k = p.1
    · simp [e] at h
      subst h
      subst e
      simp
    · simp only [if_neg e] at h
      exact List.mem_cons_of_mem _ (getI_some h)
theorem getI_none : ∀ {L : List Mv} {k : Int}, getI L k = none → k ∉ tos L
  | [], _, _ => by simp [tos]
  | p :: r, k, h => by
    simp only [getI] at h
    by_cases e : k = p.1
    · simp [e] at h
    · simp only [if_neg e] at h
      have := getI_none h
      simp only [tos, List.map_cons, List.mem_cons, not_or]
      exact ⟨e, this⟩
theorem getI_mem {L : List Mv} (hf : Fn L) {k v : Int} (h : (k, v) ∈ L) : getI L k = some v := by
  cases hg : getI L k with
  | none => exact absurd (mem_tos h) (getI_none hg)
  | some u => rw [hf.one h (getI_some hg)]
theorem getI_not {L : List Mv} {k : Int} (h : k ∉ tos L) : getI L k = none := by
  cases hg : getI L k with
  | none => rfl
  | some u => exact absurd (mem_tos (getI_some hg)) h
theorem updI_new : ∀ {L : List Mv} {k : Int}, k ∉ tos L → ∀ v, updI L k v = L ++ [(k, v)]
  | [], _, _, _ => rfl
  | p :: r, k, h, v => by
    simp only [tos, List.map_cons, List.mem_cons, not_or] at h
    simp only [updI, if_neg h.1, List.cons_append, updI_new (L := r) h.2 v]
theorem delI_eq : ∀ {L : List Mv}, Fn L → ∀ k, delI L k = del L k
  | [], _, _ => rfl
  | p :: r, hn, k => by
    have hn' : p.1 ∉ tos r ∧ (tos r).Nodup := List.nodup_cons.1 hn
    simp only [delI]
    by_cases e : k = p.1
    · subst e
      rw [if_pos rfl]
      have : del (p :: r) p.1 = del r p.1 := by simp [del]
      rw [this]
      unfold del
      symm
      rw [List.filter_eq_self]
      intro q hq
      have : q.1 ≠ p.1 := fun e => hn'.1 (e ▸ List.mem_map.2 ⟨q, hq, rfl⟩)
      simpa using this
    · rw [if_neg e, delI_eq hn'.2 k]
      have : (p.1 != k) = true := by simpa using fun h : p.1 = k => e h.symm
      simp [del, this]
theorem getI_upd : ∀ (L : List Mv) (k v j : Int), getI (updI L k v) j = if j = k then some v else getI L j
  | [], k, v, j => by simp [updI, getI]
  | p :: r, k, v, j => by
    simp only [updI]
    by_cases e : k = p.1
    · subst e
      rw [if_pos rfl]
      simp only [getI]
      by_cases h : j = p.1 <;> simp [h]
    · rw [if_neg e]
      simp only [getI]
      by_cases h : j = p.1
      · have : ¬ j = k := fun h' => e (h'.symm.trans h)
        simp [h]
        intro h'
        exact absurd h'.symm e
      · simp only [if_neg h]
        exact getI_upd r k v j
/-- how many wait for each place -/
def AskOk (A F : List Mv) : Prop := ∀ p, (getI A p).getD 0 = ((froms F).count p : Int)
theorem AskOk.nil : AskOk [] [] := fun p => by simp [getI, froms]
theorem AskOk.more {A F : List Mv} (h : AskOk A F) (t f : Int) : AskOk (updI A f ((getI A f).getD 0 + 1)) (F ++ [(t, f)]) := fun p => by
  rw [getI_upd]
  simp only [froms, List.map_append, List.map_cons, List.map_nil, List.count_append, List.count_singleton]
  by_cases e : p = f
  · subst e
    have := h p
    simp only [froms] at this
    simp [this]
  · have := h p
    simp only [froms] at this
    have e' : ¬ f = p := fun h => e h.symm
    simp [e, e', this]
theorem count_del : ∀ {F : List Mv} {t f : Int}, Fn F → (t, f) ∈ F → ∀ p, ((froms (del F t)).count p : Int) = ((froms F).count p : Int) - if p = f then 1 else 0
  | [], _, _, _, h, _ => by simp at h
  | q :: r, t, f, hn, h, p => by
    have hn' : q.1 ∉ tos r ∧ (tos r).Nodup := List.nodup_cons.1 hn
    by_cases e : q.1 = t
    · have hq : q = (t, f) := by
        rcases List.mem_cons.1 h with h | h
        · exact h.symm
        · exact absurd (e ▸ mem_tos h) hn'.1
      subst hq
      have hd : del ((t, f) :: r) t = r := by
        have : del ((t, f) :: r) t = del r t := by simp [del]
        rw [this]
        unfold del
        rw [List.filter_eq_self]
        intro q hq
        have : q.1 ≠ t := fun e => hn'.1 (e ▸ List.mem_map.2 ⟨q, hq, rfl⟩)
        simpa using this
      rw [hd]
      simp only [froms, List.map_cons, List.count_cons]
      by_cases e : p = f
      · simp [e]
      · have e' : ¬ f = p := fun h => e h.symm
        simp [e, e']
    · have hm : (t, f) ∈ r := by
        rcases List.mem_cons.1 h with h | h
        · subst h
          exact absurd rfl e
        · exact h
      have hd : del (q :: r) t = q :: del r t := by
        have : (q.1 != t) = true := by simpa using e
        simp [del, this]
      have ih := count_del hn'.2 hm p
      rw [hd]
      simp only [froms, List.map_cons, List.count_cons] at ih ⊢
      by_cases e2 : q.2 = p
      · simp [e2]; omega
      · simp [e2]; omega
theorem AskOk.less {A F : List Mv} (h : AskOk A F) (hf : Fn F) {t f : Int} (hm : (t, f) ∈ F) : AskOk (updI A f ((getI A f).getD 0 - 1)) (del F t) := fun p => by
  rw [getI_upd, count_del hf hm]
  by_cases e : p = f
  · subst e
    simp [h p]
  · simp [e, h p]
theorem AskOk.bound {A F : List Mv} (h : AskOk A F) (p : Int) : 0 ≤ (getI A p).getD 0 ∧ (getI A p).getD 0 ≤ F.length := by
  rw [h p]
  have : (froms F).count p ≤ (froms F).length := List.count_le_length
  simp [froms] at this ⊢
  omega
end Go.Bk.Mov
namespace Go.Proofs.Ytbnfhcdodejmhaa
open Go.RowKit Go.Bk Go.Bk.Mov
set_option linter.unusedVariables false

theorem info_move : (Try.prog.info? 38).map (fun i => (i.zero, i.size, i.bytes)) = some (some (.agg #[.int .i64 0, .int .i64 0]), 2, 16) := by kernel_rfl
theorem info_i64 : (Try.prog.info? 3).map (fun i => (i.zero, i.size, i.bytes)) = some (some (.int .i64 0), 1, 8) := by kernel_rfl
theorem zero_i64 (w : World) : (zeroValue 3).run Try.prog w = .ok (.int .i64 0) w := by kernel_rfl

/-- the sorter: its block, its two maps, its row -/
structure Srt (w : World) (base sb bf ba : Nat) (F A out : List Mv) (ov : Value) : Prop where
  blk : Blk w sb 52 #[.map (some bf), .map (some ba), ov]
  f : IM w bf (ivs F)
  a : IM w ba (ivs A)
  out : w.ownsRow base 38 2 ov out.length (mvV out)
  lsb : base ≤ sb
  lbf : base ≤ bf
  lba : base ≤ ba
  n1 : bf ≠ ba
  n2 : sb ≠ bf
  n3 : sb ≠ ba
  o1 : ov.ownBlock ≠ some sb
  o2 : ov.ownBlock ≠ some bf
  o3 : ov.ownBlock ≠ some ba

theorem Srt.alloc {w : World} {base sb bf ba : Nat} {F A out : List Mv} {ov : Value} (h : Srt w base sb bf ba F A out ov) (o : Obj) : Srt (w.alloc o) base sb bf ba F A out ov :=
  { h with blk := h.blk.alloc o, f := h.f.alloc o, a := h.a.alloc o, out := own_alloc h.out o }
theorem Srt.drew {w : World} {base sb bf ba : Nat} {F A out : List Mv} {ov : Value} (h : Srt w base sb bf ba F A out ov) : Srt w.drew base sb bf ba F A out ov :=
  { h with blk := h.blk.drew, f := h.f.drew, a := h.a.drew, out := own_drew h.out }
theorem Srt.grown {w w' : World} {base sb bf ba : Nat} {F A out : List Mv} {ov : Value} {r : Option Nat} (h : Srt w base sb bf ba F A out ov) (hg : w.grownBy w' r) (h1 : r ≠ some sb) (h2 : r ≠ some bf) (h3 : r ≠ some ba) (h4 : ∀ g, ov.ownBlock = some g → r ≠ some g) : Srt w' base sb bf ba F A out ov :=
  { h with blk := h.blk.grown hg h1, f := h.f.grown hg h2, a := h.a.grown hg h3, out := own_grown h.out hg h4 }
theorem Srt.cells {w : World} {base sb bf ba : Nat} {F A out : List Mv} {ov : Value} (h : Srt w base sb bf ba F A out ov) : w.cell? ⟨sb, 0, none⟩ = some (.map (some bf)) ∧ w.cell? ⟨sb, 1, none⟩ = some (.map (some ba)) ∧ w.cell? ⟨sb, 2, none⟩ = some ov :=
  ⟨by rw [h.blk.cell]; rfl, by rw [h.blk.cell]; rfl, by rw [h.blk.cell]; rfl⟩
/-- behind a change of the first map -/
theorem Srt.putF {w w' : World} {base sb bf ba : Nat} {F A out : List Mv} {ov : Value} (h : Srt w base sb bf ba F A out ov) (hg : w.grownBy w' (some bf)) {F' : List Mv} (hf : IM w' bf (ivs F')) : Srt w' base sb bf ba F' A out ov :=
  { h with blk := h.blk.grown hg (fun e => h.n2 (by injection e with e; exact e.symm)), f := hf, a := h.a.grown hg (fun e => h.n1 (by injection e)), out := own_grown h.out hg (fun g hg' e => h.o2 (by rw [hg', ← e])) }
theorem Srt.putA {w w' : World} {base sb bf ba : Nat} {F A out : List Mv} {ov : Value} (h : Srt w base sb bf ba F A out ov) (hg : w.grownBy w' (some ba)) {A' : List Mv} (hf : IM w' ba (ivs A')) : Srt w' base sb bf ba F A' out ov :=
  { h with blk := h.blk.grown hg (fun e => h.n3 (by injection e with e; exact e.symm)), a := hf, f := h.f.grown hg (fun e => h.n1 (by injection e with e; exact e.symm)), out := own_grown h.out hg (fun g hg' e => h.o3 (by rw [hg', ← e])) }
/-- behind an append and the store of its row -/
theorem Srt.push {w w' : World} {base sb bf ba : Nat} {F A out : List Mv} {ov v' : Value} (h : Srt w base sb bf ba F A out ov) {t f : Int} (hg : w.grownBy w' ov.ownBlock) (ho : w'.ownsRow base 38 2 v' (out.length + 1) (mvV out ++ [.int .i64 t, .int .i64 f])) (hat : v'.ownBlock = ov.ownBlock ∨ ∃ N, w.heap.size ≤ N ∧ v'.ownBlock = some N) :
    Srt (w'.setCell ⟨sb, 2, none⟩ v') base sb bf ba F A (out ++ [(t, f)]) v' := by
  have b1 := h.blk.grown hg h.o1
  have f1 := h.f.grown hg h.o2
  have a1 := h.a.grown hg h.o3
  have l1 := h.blk.lt
  have l2 := h.f.lt
  have l3 := h.a.lt
  have e1 : v'.ownBlock ≠ some sb := by
    rcases hat with e | ⟨N, hN, e⟩
    · rw [e]; exact h.o1
    · rw [e]; intro e'; injection e' with e'; omega
  refine ⟨?_, f1.setCell _ (fun e => h.n2 e.symm), a1.setCell _ (fun e => h.n3 e.symm), ?_, h.lsb, h.lbf, h.lba, h.n1, h.n2, h.n3, e1, ?_, ?_⟩
  · have := heap_setCell_same w' sb 2 _ _ v' b1
    unfold Blk
    rw [this]
    rfl
  · have : mvV (out ++ [(t, f)]) = mvV out ++ [.int .i64 t, .int .i64 f] := by rw [mvV_app]; rfl
    rw [this, List.length_append]
    refine ⟨ho.1, ?_⟩
    rcases ho.2 with h2 | ⟨g', cap, cur, rfl, h2, hh, r⟩
    · exact .inl h2
    · refine .inr ⟨g', cap, cur, rfl, h2, ?_, r⟩
      rw [heap_setCell_other w' ⟨sb, 2, none⟩ g' _ (fun e => e1 (by simp [Value.ownBlock, e]))]
      exact hh
  · rcases hat with e | ⟨N, hN, e⟩
    · rw [e]; exact h.o2
    · rw [e]; intro e'; injection e' with e'; omega
  · rcases hat with e | ⟨N, hN, e⟩
    · rw [e]; exact h.o3
    · rw [e]; intro e'; injection e' with e'; omega
end Go.Proofs.Ytbnfhcdodejmhaa
