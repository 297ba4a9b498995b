/-
  Maps by numbers of 64 bits, entry by entry: what a look-up, a store and a deletion do.
  Conditions: none.
-/
import Derived.Test.YtkfnnmdghibjbaaIMap
import Derived.Test.YtkfnnmdghibjbaaApp
import Derived.Maps.OwnSet
namespace Go.Bk
open Go Go.RowKit

abbrev KV := List (Int × Value)
/-- what a key holds -/
def getM : KV → Int → Option Value
  | [], _ => none
  | (a, x) :: r, k => if k = a then some x else getM r k
def updM : KV → Int → Value → KV
  | [], k, v => [(k, v)]
  | (a, x) :: r, k, v => if k = a then (a, v) :: r else (a, x) :: updM r k v
def delM : KV → Int → KV
  | [], _ => []
  | (a, x) :: r, k => if k = a then r else (a, x) :: delM r k
/-- entries that read so -/
def EM (es : List MapEntry) (m : KV) : Prop := es.map (fun e => (e.key, e.val)) = m.map fun p => (Value.int .i64 p.1, p.2)

theorem EM.nil : EM [] [] := rfl
theorem EM.cons {e : MapEntry} {es : List MapEntry} {m : KV} (h : EM (e :: es) m) : ∃ k v r, m = (k, v) :: r ∧ e.key = .int .i64 k ∧ e.val = v ∧ EM es r := by
  cases m with
  | nil => simp [EM] at h
  | cons p r =>
    obtain ⟨k, v⟩ := p
    simp only [EM, List.map_cons, List.cons.injEq, Prod.mk.injEq] at h
    exact ⟨k, v, r, rfl, h.1.1, h.1.2, h.2⟩
theorem EM.mk {e : MapEntry} {es : List MapEntry} {k : Int} {v : Value} {r : KV} (h1 : e.key = .int .i64 k) (h2 : e.val = v) (h : EM es r) : EM (e :: es) ((k, v) :: r) := by
  simp only [EM, List.map_cons, List.cons.injEq, Prod.mk.injEq] at h ⊢
  exact ⟨⟨h1, h2⟩, h⟩
theorem EM.len {es : List MapEntry} {m : KV} (h : EM es m) : es.length = m.length := by
  have := congrArg List.length h
  simpa using this

theorem em_find (k : Int) : ∀ (es : List MapEntry) (m : KV) (j : Nat), EM es m → Instr.findNow (.int .i64) (.int .i64 k) es j = some (findPair k m j)
  | [], m, j, h => by
    cases m with
    | nil => rfl
    | cons p r => simp [EM] at h
  | e :: es, m, j, h => by
    obtain ⟨a, v, r, rfl, h1, h2, h3⟩ := h.cons
    simp only [Instr.findNow, h1, Instr.sameNow, if_true, findPair]
    by_cases hk : k = a
    · simp [hk, h2]
    · have : (k == a) = false := by simp [hk]
      rw [this]
      simp only [if_neg hk]
      exact em_find k es r (j + 1) h3
theorem find_get (k : Int) : ∀ (m : KV) (j : Nat), (findPair k m j).map (·.2) = getM m k
  | [], _ => rfl
  | (a, x) :: r, j => by
    simp only [findPair, getM]
    by_cases hk : k = a
    · simp [hk]
    · simp only [if_neg hk]
      exact find_get k r (j + 1)
theorem find_none {k : Int} : ∀ {m : KV} {j : Nat}, findPair k m j = none → ∀ v, updM m k v = m ++ [(k, v)]
  | [], _, _, v => rfl
  | (a, x) :: r, j, h, v => by
    simp only [findPair] at h
    by_cases hk : k = a
    · simp [hk] at h
    · simp only [if_neg hk] at h
      simp only [updM, if_neg hk, List.cons_append, find_none h v]
theorem find_none_del {k : Int} : ∀ {m : KV} {j : Nat}, findPair k m j = none → delM m k = m
  | [], _, _ => rfl
  | (a, x) :: r, j, h => by
    simp only [findPair] at h
    by_cases hk : k = a
    · simp [hk] at h
    · simp only [if_neg hk] at h
      simp only [delM, if_neg hk, find_none_del h]
theorem em_upd {k : Int} {v : Value} : ∀ {es : List MapEntry} {m : KV} {j i : Nat} {x : Value}, EM es m → findPair k m j = some (i, x) →
    j ≤ i ∧ (∃ e, es[i - j]? = some e ∧ e.key = .int .i64 k) ∧ EM (es.modify (i - j) fun e => { e with key := .int .i64 k, val := v }) (updM m k v)
  | [], m, j, i, x, h, hf => by
    cases m with
    | nil => simp [findPair] at hf
    | cons p r => simp [EM] at h
  | e :: es, m, j, i, x, h, hf => by
    obtain ⟨a, y, r, rfl, h1, h2, h3⟩ := h.cons
    simp only [findPair] at hf
    by_cases hk : k = a
    · subst hk
      simp only [if_true, Option.some.injEq, Prod.mk.injEq] at hf
      obtain ⟨rfl, rfl⟩ := hf
      refine ⟨Nat.le_refl _, ⟨e, by simp, h1⟩, ?_⟩
      simp only [Nat.sub_self, updM, if_true]
      exact EM.mk rfl rfl h3
    · simp only [if_neg hk] at hf
      obtain ⟨k1, ⟨e', k2, k3⟩, k4⟩ := em_upd (v := v) h3 hf
      have hi : i - j = (i - (j + 1)) + 1 := by omega
      refine ⟨by omega, ⟨e', by rw [hi]; simpa using k2, k3⟩, ?_⟩
      rw [hi]
      simp only [updM, if_neg hk]
      exact EM.mk h1 h2 k4
theorem em_del {k : Int} : ∀ {es : List MapEntry} {m : KV} {j i : Nat} {x : Value}, EM es m → findPair k m j = some (i, x) → j ≤ i ∧ i - j < es.length ∧ EM (es.eraseIdx (i - j)) (delM m k)
  | [], m, j, i, x, h, hf => by
    cases m with
    | nil => simp [findPair] at hf
    | cons p r => simp [EM] at h
  | e :: es, m, j, i, x, h, hf => by
    obtain ⟨a, y, r, rfl, h1, h2, h3⟩ := h.cons
    simp only [findPair] at hf
    by_cases hk : k = a
    · subst hk
      simp only [if_true, Option.some.injEq, Prod.mk.injEq] at hf
      obtain ⟨rfl, rfl⟩ := hf
      refine ⟨Nat.le_refl _, by simp, ?_⟩
      simp only [Nat.sub_self, delM, if_true]
      exact h3
    · simp only [if_neg hk] at hf
      obtain ⟨k1, k2, k4⟩ := em_del h3 hf
      have hi : i - j = (i - (j + 1)) + 1 := by omega
      refine ⟨by omega, by simp; omega, ?_⟩
      rw [hi]
      simp only [delM, if_neg hk]
      exact EM.mk h1 h2 k4

/-- block b is a map that reads so, entry by entry -/
def IM (w : World) (b : Nat) (m : KV) : Prop :=
  ∃ es clock, w.heap[b]? = some (.map es clock) ∧ EM es.toList m ∧ (es.toList.map (·.born)).Nodup ∧ ∀ e ∈ es.toList, e.born < clock

theorem IM.lt {w : World} {b : Nat} {m : KV} (h : IM w b m) : b < w.heap.size := by
  obtain ⟨es, clock, hb, _⟩ := h
  exact (Array.getElem?_eq_some_iff.1 hb).1
theorem IM.new (w : World) : IM (w.alloc (.map #[] 0)) w.heap.size [] := ⟨#[], 0, heap_alloc_new w _, rfl, by simp, by simp⟩
theorem IM.newAt {w : World} {N : Nat} (h : w.heap.size = N) : IM (w.alloc (.map #[] 0)) N [] := by subst h; exact IM.new w
theorem IM.grown {w w' : World} {b : Nat} {m : KV} {r : Option Nat} (h : IM w b m) (hg : w.grownBy w' r) (hr : r ≠ some b) : IM w' b m := by
  have hlt := h.lt
  obtain ⟨es, clock, hb, r1⟩ := h
  exact ⟨es, clock, (hg.block b hlt (fun e => hr e.symm)).trans hb, r1⟩
theorem IM.below {w w' : World} {B b : Nat} {m : KV} (h : IM w b m) (hb : Below B w w') (hB : b < B) : IM w' b m := by
  obtain ⟨es, clock, h1, r1⟩ := h
  exact ⟨es, clock, (hb.block b hB).trans h1, r1⟩
theorem IM.alloc {w : World} {b : Nat} {m : KV} (h : IM w b m) (o : Obj) : IM (w.alloc o) b m := h.grown (World.grownBy_alloc w o none) (by simp)
theorem IM.drew {w : World} {b : Nat} {m : KV} (h : IM w b m) : IM w.drew b m := h
theorem IM.drewN {w : World} {b : Nat} {m : KV} (h : IM w b m) (n : Nat) : IM (w.drewN n) b m := h
theorem heap_setCell_ne (w : World) (p : Addr) (b : Nat) (v : Value) (h : b ≠ p.block) : (w.setCell p v).heap[b]? = w.heap[b]? := heap_setCell_other w p b v h
theorem IM.setCell {w : World} {b : Nat} {m : KV} (h : IM w b m) {p : Addr} (v : Value) (hp : b ≠ p.block) : IM (w.setCell p v) b m := by
  obtain ⟨es, clock, h1, r1⟩ := h
  exact ⟨es, clock, (heap_setCell_other w p b v hp).trans h1, r1⟩

/-- how many entries a map's block has -/
def mapSize (w : World) (b : Nat) : Nat := match w.heap[b]? with
  | some (.map es _) => es.size
  | _ => 0
theorem IM.size {w : World} {b : Nat} {m : KV} (h : IM w b m) : mapSize w b = m.length := by
  obtain ⟨es, clock, hb, he, _⟩ := h
  unfold mapSize
  rw [hb]
  simpa using he.len
def sliceLen : Value → Nat
  | .slice _ n _ => n
  | _ => 0

/-- what a store into a map's block leaves -/
theorem grown_put {w : World} {b : Nat} (o : Obj) (_ : b < w.heap.size) : w.grownBy { w with heap := w.heap.setIfInBounds b o } (some b) :=
  ⟨rfl, rfl, rfl, by simp, fun k hk hne => by
    simp only [Array.getElem?_setIfInBounds]
    rw [if_neg (fun e => hne (by rw [e]))]⟩

theorem IM.put {w : World} {b : Nat} (hb : b < w.heap.size) (es : Array MapEntry) (clock : Nat) {m : KV} (h1 : EM es.toList m) (h2 : (es.toList.map (·.born)).Nodup) (h3 : ∀ e ∈ es.toList, e.born < clock) : IM { w with heap := w.heap.setIfInBounds b (.map es clock) } b m :=
  ⟨es, clock, by simp [hb], h1, h2, h3⟩

theorem stays {P : Program} (w : World) (k : Int) : (Instr.keyThatStays (.int .i64 k) (.int .i64 k)).run P w = .ok (.int .i64 k) w := by
  simp [Instr.keyThatStays, Instr.sameBits]

theorem IM.lookup {P : Program} {w : World} {b : Nat} {m : KV} (h : IM w b m) {t kt et : TypeId} {z : Value} (ht : P.underlying t = some (.map kt et)) (hk : P.underlying kt = some (.int .i64)) (hz : (zeroValue et).run P w = .ok z w) (k : Int) :
    (Instr.lookup t (.map (some b)) (.int .i64 k) false).run P w = .ok ((getM m k).getD z) w ∧
    (Instr.lookup t (.map (some b)) (.int .i64 k) true).run P w = .ok (.tuple #[(getM m k).getD z, .bool (getM m k).isSome]) w := by
  obtain ⟨es, clock, hb, he, _, _⟩ := h
  have h1 := get_map (P := P) hb
  have h2 := fun c => checkKey_int (P := P) w c 9999 kt .i64 k hk
  have h3 := find_key (P := P) (w := w) hk (em_find k es.toList m 0 he)
  have h4 := find_get k m 0
  unfold Instr.lookup
  simp only [Sem.run_bind, run_underlying ht, Result.andThen_ok, h1, Sem.run_pure, h2, h3]
  cases hf : findPair k m 0 with
  | none => rw [hf] at h4; rw [← h4]; simp [hz]
  | some p => rw [hf] at h4; rw [← h4]; simp [Sem.run_pure]

theorem IM.update {P : Program} {w : World} {b : Nat} {m : KV} (h : IM w b m) {t kt et : TypeId} (ht : P.underlying t = some (.map kt et)) (hk : P.underlying kt = some (.int .i64)) (k : Int) (v : Value) :
    ∃ w', (Instr.mapUpdate t (.map (some b)) (.int .i64 k) v).run P w = .ok () w' ∧ IM w' b (updM m k v) ∧ w.grownBy w' (some b) ∧ w'.heap.size = w.heap.size := by
  have hlt := h.lt
  obtain ⟨es, clock, hb, he, hn, hc⟩ := h
  have h1 := get_map (P := P) hb
  have h2 := fun c => checkKey_int (P := P) w c 9999 kt .i64 k hk
  have h3 := find_key (P := P) (w := w) hk (em_find k es.toList m 0 he)
  unfold Instr.mapUpdate
  simp only [Sem.run_bind, run_underlying ht, Result.andThen_ok, h1, h2, h3]
  cases hf : findPair k m 0 with
  | none =>
    have h4 := set_map (P := P) (.map (es.push { key := .int .i64 k, val := v, born := clock }) (clock + 1)) hb
    refine ⟨_, h4, IM.put hlt _ _ ?_ ?_ ?_, grown_put _ hlt, by simp⟩
    · rw [find_none hf v]
      simp only [EM, Array.toList_push, List.map_append, List.map_cons, List.map_nil] at he ⊢
      rw [he]
    · simp only [Array.toList_push, List.map_append, List.map_cons, List.map_nil]
      rw [List.nodup_append]
      refine ⟨hn, by simp, fun a ha c hc' => ?_⟩
      obtain ⟨e, he', rfl⟩ := List.mem_map.1 ha
      simp at hc'
      have := hc e he'
      omega
    · intro e he'
      simp only [Array.toList_push, List.mem_append, List.mem_singleton] at he'
      rcases he' with h | h
      · have := hc e h; omega
      · subst h; simp
  | some p =>
    obtain ⟨i, x⟩ := p
    obtain ⟨k1, ⟨e0, k2, k3⟩, k4⟩ := em_upd (v := v) he hf
    simp only [Nat.sub_zero] at k2 k4
    have hkey : ((es[i]?).map (·.key)).getD (.int .i64 k) = .int .i64 k := by
      have : es[i]? = some e0 := by simpa using k2
      rw [this]
      simpa using k3
    have h4 := set_map (P := P) (.map (es.modify i fun e => { e with key := .int .i64 k, val := v }) clock) hb
    have hrun : (Instr.keyThatStays (((es[i]?).map (·.key)).getD (.int .i64 k)) (.int .i64 k) >>= fun key => setObj b (.map (es.modify i fun e => { e with key, val := v }) clock)).run P w = .ok () { w with heap := w.heap.setIfInBounds b (.map (es.modify i fun e => { e with key := .int .i64 k, val := v }) clock) } := by
      rw [hkey, Sem.run_bind, stays, Result.andThen_ok, h4]
    refine ⟨_, hrun, IM.put hlt _ _ ?_ ?_ ?_, grown_put _ hlt, by simp⟩
    · simpa [Array.toList_modify] using k4
    · have e : ((es.modify i fun e => { e with key := .int .i64 k, val := v }).toList.map (·.born)) = es.toList.map (·.born) := by
        rw [Array.toList_modify]
        apply List.ext_getElem?
        intro j
        simp only [List.getElem?_map, List.getElem?_modify]
        by_cases hj : i = j
        · subst hj
          cases es.toList[i]? <;> simp
        · simp [hj]
      rw [e]
      exact hn
    · intro e he'
      rw [Array.toList_modify] at he'
      obtain ⟨j, hj⟩ := List.mem_iff_getElem?.1 he'
      rw [List.getElem?_modify] at hj
      cases hj' : es.toList[j]? with
      | none => rw [hj'] at hj; simp at hj
      | some e1 =>
        rw [hj'] at hj
        have := hc e1 (List.mem_of_getElem? hj')
        by_cases hij : i = j
        · simp [hij] at hj; rw [← hj]; exact this
        · simp [hij] at hj; rw [← hj]; exact this

theorem IM.delete {P : Program} {w : World} {b : Nat} {m : KV} (h : IM w b m) {t kt et ty : TypeId} (ht : P.underlying t = some (.map kt et)) (hk : P.underlying kt = some (.int .i64)) (k : Int) :
    ∃ w', (Builtin.delete_ #[t, kt] ty #[.map (some b), .int .i64 k]).run P w = .ok (.tuple #[]) w' ∧ IM w' b (delM m k) ∧ w.grownBy w' (some b) ∧ w'.heap.size = w.heap.size := by
  have hlt := h.lt
  obtain ⟨es, clock, hb, he, hn, hc⟩ := h
  have h1 := get_map (P := P) hb
  have h2 := fun c => checkKey_int (P := P) w c 9999 kt .i64 k hk
  have h3 := find_key (P := P) (w := w) hk (em_find k es.toList m 0 he)
  cases hf : findPair k m 0 with
  | none =>
    rw [hf] at h3
    have h4 := set_map (P := P) (.map es clock) hb
    have hrun : (Builtin.delete_ #[t, kt] ty #[.map (some b), .int .i64 k]).run P w = .ok (.tuple #[]) { w with heap := w.heap.setIfInBounds b (.map es clock) } := by
      simp [Builtin.delete_, run_underlying ht, h1, h2, h3, h4]
    exact ⟨_, hrun, IM.put hlt _ _ (by rw [find_none_del hf]; exact he) hn hc, grown_put _ hlt, by simp⟩
  | some p =>
    obtain ⟨i, x⟩ := p
    rw [hf] at h3
    obtain ⟨k1, k2, k4⟩ := em_del he hf
    simp only [Nat.sub_zero] at k2 k4
    have h4 := set_map (P := P) (.map (es.eraseIdxIfInBounds i) clock) hb
    have hi : i < es.size := by simpa using k2
    have hE : (es.eraseIdxIfInBounds i).toList = es.toList.eraseIdx i := by
      rw [Array.eraseIdxIfInBounds, dif_pos hi, Array.toList_eraseIdx]
    have hrun : (Builtin.delete_ #[t, kt] ty #[.map (some b), .int .i64 k]).run P w = .ok (.tuple #[]) { w with heap := w.heap.setIfInBounds b (.map (es.eraseIdxIfInBounds i) clock) } := by
      simp [Builtin.delete_, run_underlying ht, h1, h2, h3, h4]
    refine ⟨_, hrun, IM.put hlt _ _ (by rw [hE]; exact k4) ?_ ?_, grown_put _ hlt, by simp⟩
    · rw [hE]
      exact List.Nodup.sublist ((List.eraseIdx_sublist _ _).map _) hn
    · intro e he'
      rw [hE] at he'
      exact hc e ((List.eraseIdx_sublist _ _).subset he')

section
variable {P : Program} {ops : Array Oper} {rest : List Oper} {o : Oper} {a : Act} {Q : Exit → Act → World → Prop}
theorem wp_upd (w : World) (hg : o.guard = none) (m x v : Operand) (t : TypeId) (hop : o.op = Op.mapUpdate t m x v) (kt et : TypeId) (ht : P.underlying t = some (.map kt et)) (hk : P.underlying kt = some (.int .i64))
    (b : Nat) (M : KV) (k : Int) (val : Value) (hm : a.eval m = .map (some b)) (hx : a.eval x = .int .i64 k) (hv : a.eval v = val) (hown : IM w b M)
    (hK : ∀ w', IM w' b (updM M k val) → w.grownBy w' (some b) → w'.heap.size = w.heap.size → wpList P ops Q rest (a.put o.dst undef) w') : wpList P ops Q (o :: rest) a w := by
  refine wpList_plain hg fun K' hK' => ?_
  obtain ⟨w', hrun, r1, r2, r3⟩ := hown.update (P := P) ht hk k val
  unfold Oper.wp
  simp [execOp, hop, hm, hx, hv, hrun, Result.andThen]
  exact hK' _ _ (hK w' r1 r2 r3)
theorem wp_del (w : World) (hg : o.guard = none) (m x : Operand) (t kt : TypeId) (hop : o.op = Op.call { callee := Callee.builtin Builtin.delete, args := #[m, x], argTypes := #[t, kt] }) (et : TypeId) (ht : P.underlying t = some (.map kt et)) (hk : P.underlying kt = some (.int .i64))
    (b : Nat) (M : KV) (k : Int) (hm : a.eval m = .map (some b)) (hx : a.eval x = .int .i64 k) (hown : IM w b M)
    (hK : ∀ w', IM w' b (delM M k) → w.grownBy w' (some b) → w'.heap.size = w.heap.size → wpList P ops Q rest (a.put o.dst (.tuple #[])) w') : wpList P ops Q (o :: rest) a w := by
  refine wpList_plain hg fun K' hK' => ?_
  obtain ⟨w', hrun, r1, r2, r3⟩ := hown.delete (P := P) (ty := o.type) ht hk k
  unfold Oper.wp
  simp [execOp, hop, resolve, invoke, builtin, hm, hx, hrun, Result.andThen]
  exact hK' _ _ (hK w' r1 r2 r3)
end
end Go.Bk
