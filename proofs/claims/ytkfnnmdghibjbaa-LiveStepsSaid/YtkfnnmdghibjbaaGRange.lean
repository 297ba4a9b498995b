/-
  Ranging over a map by numbers that is not turned: each entry comes once, in whatever order.
  Conditions: none.
-/
import Derived.Test.YtkfnnmdghibjbaaGMap
import Derived.Maps.RangeWalk
namespace Go.Bk
open Go Go.RowKit Go.ChangeMaps

/-- block r is a range's state over the map in block b, that reads as m; L are the entries that are to come -/
def IT (w : World) (b r : Nat) (m L : KV) : Prop :=
  ∃ es clock seen, w.heap[b]? = some (.map es clock) ∧ EM es.toList m ∧ (es.toList.map (·.born)).Nodup ∧ (∀ e ∈ es.toList, e.born < clock) ∧ w.heap[r]? = some (.mapIter (some b) clock seen clock) ∧ EM (leftOf es seen).toList L

theorem IT.im {w : World} {b r : Nat} {m L : KV} (h : IT w b r m L) : IM w b m := by
  obtain ⟨es, clock, seen, h1, h2, h3, h4, _⟩ := h
  exact ⟨es, clock, h1, h2, h3, h4⟩
theorem IT.lt {w : World} {b r : Nat} {m L : KV} (h : IT w b r m L) : r < w.heap.size := by
  obtain ⟨es, clock, seen, h1, h2, h3, h4, h5, _⟩ := h
  exact (Array.getElem?_eq_some_iff.1 h5).1
theorem IT.ne {w : World} {b r : Nat} {m L : KV} (h : IT w b r m L) : r ≠ b := by
  obtain ⟨es, clock, seen, h1, h2, h3, h4, h5, _⟩ := h
  intro e
  subst e
  rw [h1] at h5
  cases h5
theorem IT.grown {w w' : World} {b r : Nat} {m L : KV} {row : Option Nat} (h : IT w b r m L) (hg : w.grownBy w' row) (hb : row ≠ some b) (hr : row ≠ some r) : IT w' b r m L := by
  have l1 := h.im.lt
  have l2 := h.lt
  obtain ⟨es, clock, seen, h1, h2, h3, h4, h5, h6⟩ := h
  exact ⟨es, clock, seen, (hg.block b l1 (fun e => hb e.symm)).trans h1, h2, h3, h4, (hg.block r l2 (fun e => hr e.symm)).trans h5, h6⟩
theorem IT.alloc {w : World} {b r : Nat} {m L : KV} (h : IT w b r m L) (o : Obj) : IT (w.alloc o) b r m L := h.grown (World.grownBy_alloc w o none) (by simp) (by simp)
theorem IT.drew {w : World} {b r : Nat} {m L : KV} (h : IT w b r m L) : IT w.drew b r m L := h
theorem IT.drewN {w : World} {b r : Nat} {m L : KV} (h : IT w b r m L) (n : Nat) : IT (w.drewN n) b r m L := h
theorem IT.setCell {w : World} {b r : Nat} {m L : KV} (h : IT w b r m L) {p : Addr} (v : Value) (hp : b ≠ p.block) (hr : r ≠ p.block) : IT (w.setCell p v) b r m L := by
  obtain ⟨es, clock, seen, h1, h2, h3, h4, h5, h6⟩ := h
  exact ⟨es, clock, seen, (heap_setCell_other w p b v hp).trans h1, h2, h3, h4, (heap_setCell_other w p r v hr).trans h5, h6⟩

theorem IT.left {w : World} {b r : Nat} {m L : KV} (h : IT w b r m L) : w.rangeLeft b r = L.length := by
  obtain ⟨es, clock, seen, h1, h2, h3, h4, h5, h6⟩ := h
  unfold World.rangeLeft
  rw [h1, h5]
  simpa using h6.len
theorem em_split : ∀ {l1 : List MapEntry} {e : MapEntry} {l2 : List MapEntry} {L : KV}, EM (l1 ++ e :: l2) L → ∃ L1 k v L2, L = L1 ++ (k, v) :: L2 ∧ e.key = .int .i64 k ∧ e.val = v ∧ EM (l1 ++ l2) (L1 ++ L2)
  | [], e, l2, L, h => by
    obtain ⟨k, v, r, rfl, h1, h2, h3⟩ := h.cons
    exact ⟨[], k, v, r, rfl, h1, h2, h3⟩
  | a :: l1, e, l2, L, h => by
    obtain ⟨k, v, r, rfl, h1, h2, h3⟩ := EM.cons h
    obtain ⟨L1, k', v', L2, rfl, k1, k2, k3⟩ := em_split h3
    exact ⟨(k, v) :: L1, k', v', L2, rfl, k1, k2, EM.mk h1 h2 k3⟩

theorem filter_born {l1 : List MapEntry} {e : MapEntry} {l2 : List MapEntry} (h : ((l1 ++ e :: l2).map (·.born)).Nodup) : (l1 ++ e :: l2).filter (fun x => !(x.born == e.born)) = l1 ++ l2 := by
  rw [List.map_append, List.map_cons, List.nodup_append] at h
  obtain ⟨h1, h2, h3⟩ := h
  rw [List.nodup_cons] at h2
  rw [List.filter_append, List.filter_cons]
  have f1 : l1.filter (fun x => !(x.born == e.born)) = l1 := by
    rw [List.filter_eq_self]
    intro x hx
    have := h3 x.born (List.mem_map.2 ⟨x, hx, rfl⟩) e.born (by simp)
    simpa using this
  have f2 : l2.filter (fun x => !(x.born == e.born)) = l2 := by
    rw [List.filter_eq_self]
    intro x hx
    have : x.born ≠ e.born := fun hh => h2.1 (hh ▸ List.mem_map.2 ⟨x, hx, rfl⟩)
    simpa using this
  simp [f1, f2]

theorem leftOf_push (es : Array MapEntry) (seen : Array Nat) (n : Nat) : (leftOf es (seen.push n)).toList = (leftOf es seen).toList.filter (fun x => !(x.born == n)) := by
  unfold leftOf
  rw [Array.toList_filter, Array.toList_filter, List.filter_filter]
  refine List.filter_congr fun x _ => ?_
  rw [Array.contains_push]
  simp only [Bool.not_or, Bool.and_comm]
theorem leftOf_none (es : Array MapEntry) : (leftOf es #[]).toList = es.toList := by
  unfold leftOf
  rw [Array.toList_filter, List.filter_eq_self]
  intro x _
  simp

section
variable {P : Program} {ops : Array Oper} {rest : List Oper} {o : Oper} {a : Act} {Q : Exit → Act → World → Prop}
theorem wp_range (w : World) (hg : o.guard = none) (m : Operand) (t : TypeId) (hop : o.op = Op.range t m) (kt et : TypeId) (ht : P.underlying t = some (.map kt et)) (b : Nat) (M : KV) (hm : a.eval m = .map (some b)) (hown : IM w b M)
    (hK : ∀ w', IT w' b w.heap.size M M → w.grownBy w' none → w'.heap.size = w.heap.size + 1 → wpList P ops Q rest (a.put o.dst (.pointer (some ⟨w.heap.size, 0, none⟩))) w') : wpList P ops Q (o :: rest) a w := by
  refine wpList_plain hg fun K' hK' => ?_
  obtain ⟨es, clock, hb, h1, h2, h3⟩ := hown
  have hrun : (Instr.range t (.map (some b))).run P w = .ok (.pointer (some ⟨w.heap.size, 0, none⟩)) (w.alloc (.mapIter (some b) clock #[] clock)) := by
    simp [Instr.range, run_underlying ht, get_map hb]
  unfold Oper.wp
  simp [execOp, hop, hm, hrun, Result.andThen]
  have hlt : b < w.heap.size := (Array.getElem?_eq_some_iff.1 hb).1
  exact hK' _ _ (hK _ ⟨es, clock, #[], (((World.grownBy_alloc w _ none).block b hlt (by simp)).trans hb), h1, h2, h3, _root_.Go.heap_alloc_new w _, by rw [leftOf_none]; exact h1⟩ (World.grownBy_alloc w _ none) (by simp))

theorem wp_next (w : World) (hg : o.guard = none) (it : Operand) (hop : o.op = Op.next it false) (b r : Nat) (M L : KV) (hit : a.eval it = .pointer (some ⟨r, 0, none⟩)) (h : IT w b r M L)
    (hDone : L = [] → wpList P ops Q rest (a.put o.dst (.tuple #[.bool false])) w)
    (hMore : ∀ L1 k v L2 w', L = L1 ++ (k, v) :: L2 → IT w' b r M (L1 ++ L2) → w.grownBy w' (some r) → w'.heap.size = w.heap.size → (Instr.entry (.pointer (some ⟨r, 0, none⟩))).run P w' = .ok (.tuple #[.int .i64 k, v]) w' →
      wpList P ops Q rest (a.put o.dst (.tuple #[.bool true, .int .i64 k, v])) w') : wpList P ops Q (o :: rest) a w := by
  refine wpList_plain hg fun K' hK' => ?_
  have hne := h.ne
  have hlr := h.lt
  obtain ⟨es, clock, seen, h1, h2, h3, h4, h5, h6⟩ := h
  unfold Oper.wp
  rcases run_next_at (P := P) w o.type r b clock clock seen es clock h5 h1 h4 (Nat.le_refl _) with ⟨h0, hrun⟩ | ⟨e, he, w1, hw1, hrun⟩
  · simp [execOp, hop, hit, hrun, Result.andThen]
    refine hK' _ _ (hDone ?_)
    have := h6.len
    simp only [Array.length_toList, h0] at this
    exact List.eq_nil_of_length_eq_zero this.symm
  · simp [execOp, hop, hit, hrun, Result.andThen]
    obtain ⟨l1, l2, hl⟩ := List.append_of_mem he
    have h6' := h6
    rw [hl] at h6'
    obtain ⟨L1, k, v, L2, rfl, k1, k2, k3⟩ := em_split h6'
    have hes : e ∈ es.toList := by
      have : e ∈ (leftOf es seen).toList := he
      unfold leftOf at this
      rw [Array.toList_filter] at this
      exact (List.mem_filter.1 this).1
    have hsub : ((leftOf es seen).toList.map (·.born)).Nodup := by
      unfold leftOf
      rw [Array.toList_filter]
      exact List.Nodup.sublist ((List.filter_sublist (l := es.toList)).map _) h3
    rw [hl] at hsub
    have hw1h : w1.heap = w.heap := by rcases hw1 with rfl | rfl <;> rfl
    have hB : (setBlock w1 r (.mapIter (some b) clock (seen.push e.born) clock)).heap[b]? = some (.map es clock) := by
      simp only [setBlock, Array.getElem?_setIfInBounds, hw1h]
      rw [if_neg hne]
      exact h1
    have hR : (setBlock w1 r (.mapIter (some b) clock (seen.push e.born) clock)).heap[r]? = some (.mapIter (some b) clock (seen.push e.born) clock) := by
      simp [setBlock, hw1h, hlr]
    have hen := run_entry_at (P := P) _ r b clock seen es clock e hR hB hes h3
    rw [k1, k2] at hen
    rw [k1, k2]
    refine hK' _ _ (hMore L1 k v L2 _ rfl ⟨es, clock, seen.push e.born, hB, h2, h3, h4, hR, ?_⟩ ?_ ?_ hen)
    · rw [leftOf_push, hl, filter_born hsub]
      exact k3
    · refine ⟨?_, ?_, ?_, by simp [setBlock, hw1h], fun j hj hne' => ?_⟩
      · rcases hw1 with rfl | rfl <;> rfl
      · rcases hw1 with rfl | rfl <;> rfl
      · rcases hw1 with rfl | rfl <;> rfl
      · simp only [setBlock, Array.getElem?_setIfInBounds, hw1h]
        rw [if_neg (fun e => hne' (by rw [e]))]
    · simp [setBlock, hw1h]
end
end Go.Bk
