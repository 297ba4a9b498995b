/-
  Sets of numbers as maps to true: what is put in, and how many there are; an entry that is made and then written.
  Conditions: none.
-/
import Derived.Test.YtkfnnmdghibjbaaGRange
namespace Go.Bk
open Go Go.RowKit Go.ChangeMaps

/-- a set's entries -/
def setKV (s : List Int) : KV := s.map fun k => (k, Value.bool true)
def ins (s : List Int) (k : Int) : List Int := if k ∈ s then s else s ++ [k]
def insAll (s : List Int) : List Int → List Int
  | [] => s
  | k :: l => insAll (ins s k) l
theorem setKV_len (s : List Int) : (setKV s).length = s.length := by simp [setKV]
theorem setKV_app (s t : List Int) : setKV (s ++ t) = setKV s ++ setKV t := by simp [setKV]
theorem setKV_get (s : List Int) (k : Int) : getM (setKV s) k = if k ∈ s then some (.bool true) else none := by
  induction s with
  | nil => simp [setKV, getM]
  | cons a s ih =>
    simp only [setKV, List.map_cons, getM] at ih ⊢
    by_cases h : k = a
    · subst h; simp
    · rw [if_neg h, ih]
      simp [h]
theorem setKV_upd (s : List Int) (k : Int) : updM (setKV s) k (.bool true) = setKV (ins s k) := by
  induction s with
  | nil => simp [setKV, updM, ins]
  | cons a s ih =>
    simp only [setKV, List.map_cons, updM] at ih ⊢
    by_cases h : k = a
    · subst h
      simp [ins]
    · rw [if_neg h, ih]
      by_cases hm : k ∈ s
      · simp [ins, h, hm]
      · simp [ins, h, hm]
theorem mem_ins {s : List Int} {k x : Int} : x ∈ ins s k ↔ x ∈ s ∨ x = k := by
  unfold ins
  split
  · rename_i h
    constructor
    · exact .inl
    · rintro (h1 | h1)
      · exact h1
      · rw [h1]; exact h
  · simp
theorem ins_nodup {s : List Int} {k : Int} (h : s.Nodup) : (ins s k).Nodup := by
  unfold ins
  split
  · exact h
  · rename_i hk
    rw [List.nodup_append]
    exact ⟨h, by simp, fun a ha b hb e => by simp at hb; subst hb; subst e; exact hk ha⟩
theorem ins_of_mem {s : List Int} {k : Int} (h : k ∈ s) : ins s k = s := by simp [ins, h]
theorem ins_of_not {s : List Int} {k : Int} (h : k ∉ s) : ins s k = s ++ [k] := by simp [ins, h]
theorem mem_insAll {l s : List Int} {x : Int} : x ∈ insAll s l ↔ x ∈ s ∨ x ∈ l := by
  induction l generalizing s with
  | nil => simp [insAll]
  | cons a l ih =>
    rw [insAll, ih, mem_ins, List.mem_cons]
    constructor
    · rintro ((h | h) | h)
      · exact .inl h
      · exact .inr (.inl h)
      · exact .inr (.inr h)
    · rintro (h | h | h)
      · exact .inl (.inl h)
      · exact .inl (.inr h)
      · exact .inr h
theorem insAll_nodup {l s : List Int} (h : s.Nodup) : (insAll s l).Nodup := by
  induction l generalizing s with
  | nil => exact h
  | cons a l ih => exact ih (ins_nodup h)
theorem insAll_snoc (s l : List Int) (k : Int) : insAll s (l ++ [k]) = ins (insAll s l) k := by
  induction l generalizing s with
  | nil => rfl
  | cons a l ih => simp only [List.cons_append, insAll, ih]
theorem ins_len (s : List Int) (k : Int) : s.length ≤ (ins s k).length := by
  unfold ins; split <;> simp
theorem insAll_len (l s : List Int) : s.length ≤ (insAll s l).length := by
  induction l generalizing s with
  | nil => exact Nat.le_refl _
  | cons a l ih => exact Nat.le_trans (ins_len s a) (ih _)
/-- nothing was new: nothing was put in -/
theorem insAll_same {l s : List Int} (h : (insAll s l).length ≤ s.length) : insAll s l = s := by
  induction l generalizing s with
  | nil => rfl
  | cons a l ih =>
    rw [insAll] at h ⊢
    have h1 := insAll_len l (ins s a)
    have h2 := ins_len s a
    have h3 : ins s a = s := by
      unfold ins at h2 h1 h ⊢
      split
      · rfl
      · rename_i hk
        rw [if_neg hk] at h h1
        simp at h h1
        omega
    rw [h3] at h ⊢
    exact ih h

/-- a map's block is no row of cells -/
theorem IM.no_cells {w : World} {b : Nat} {m : KV} (h : IM w b m) (o : Nat) : w.cell? ⟨b, o, none⟩ = none := by
  obtain ⟨es, clock, hb, _⟩ := h
  unfold World.cell?
  rw [hb]
theorem IM.src_ne {w : World} {b n : Nat} {m : KV} {A : Option Addr} {xs : List Value} (h : IM w b m) (hs : Src w A n xs) (hn : 0 < n) : ∀ a, A = some a → a.block ≠ b := by
  intro a ha e
  subst ha
  obtain ⟨g, o, e1, _, hc⟩ := hs.2 hn
  injection e1 with e1
  subst e1
  subst e
  have := hc 0 _ (List.getElem?_eq_getElem (by rw [hs.1]; exact hn))
  rw [h.no_cells] at this
  cases this
theorem IM.blk_ne {w : World} {b g : Nat} {m : KV} {t : TypeId} {cs : Array Value} (h : IM w b m) (k : Blk w g t cs) : b ≠ g := by
  intro e
  subst e
  obtain ⟨es, clock, hb, _⟩ := h
  have := hb.symm.trans k
  injection this with this
  cases this
theorem IM.own_ne {w : World} {b base n size : Nat} {t : TypeId} {m : KV} {v : Value} {xs : List Value} (h : IM w b m) (k : w.ownsRow base t size v n xs) : v.ownBlock ≠ some b := by
  rcases k.2 with ⟨h1, _⟩ | ⟨g, cap, cur, h1, h2, h3, _⟩
  · subst h1; simp [Value.ownBlock]
  · subst h1
    intro e
    injection e with e
    exact h.blk_ne (show Blk w g t cur from h3) e.symm

theorem IM.len_run {P : Program} {w : World} {b : Nat} {m : KV} (h : IM w b m) {t kt et : TypeId} (ht : P.underlying t = some (.map kt et)) (ty : TypeId) : (Builtin.len_ #[t] ty #[.map (some b)]).run P w = .ok (.int .i64 (m.length : Int)) w := by
  obtain ⟨es, clock, hb, he, _⟩ := h
  have hl := he.len
  simp only [Array.length_toList] at hl
  simp [Builtin.len_, run_underlying ht, get_map hb, goInt, Result.andThen, hl]

/-- an entry that was made and is not written yet -/
def IE (w : World) (b : Nat) (m : KV) (k : Int) (stamp : Nat) : Prop :=
  ∃ (es : Array MapEntry) (z : Value), w.heap[b]? = some (.map (es.push { key := .int .i64 k, val := z, born := stamp }) (stamp + 1)) ∧ EM es.toList m ∧ (es.toList.map (·.born)).Nodup ∧ ∀ e ∈ es.toList, e.born < stamp
section
variable {P : Program} {ops : Array Oper} {rest : List Oper} {o : Oper} {a : Act} {Q : Exit → Act → World → Prop}
theorem wp_mlen (w : World) (hg : o.guard = none) (m : Operand) (t : TypeId) (hop : o.op = Op.call { callee := Callee.builtin Builtin.len, args := #[m], argTypes := #[t] }) (kt et : TypeId) (ht : P.underlying t = some (.map kt et)) (b : Nat) (M : KV) (hm : a.eval m = .map (some b)) (hown : IM w b M)
    (hK : wpList P ops Q rest (a.put o.dst (.int .i64 (M.length : Int))) w) : wpList P ops Q (o :: rest) a w := by
  refine wpList_plain hg fun K' hK' => ?_
  unfold Oper.wp
  simp [execOp, hop, resolve, invoke, builtin, hm, hown.len_run ht o.type, Result.andThen]
  exact hK' _ _ hK
theorem IM.entry {P : Program} {w : World} {b : Nat} {m : KV} (h : IM w b m) {t kt et : TypeId} {z : Value} (ht : P.underlying t = some (.map kt et)) (hk : P.underlying kt = some (.int .i64)) (hz : ∀ w, (zeroValue et).run P w = .ok z w) (k : Int) (hn : getM m k = none) :
    ∃ w' stamp, (Instr.mapEntry t (.map (some b)) (.int .i64 k)).run P w = .ok (.tuple #[z, .int .i64 (stamp : Nat)]) w' ∧ IE w' b m k stamp ∧ w.grownBy w' (some b) ∧ w'.heap.size = w.heap.size := by
  have hlt := h.lt
  obtain ⟨es, clock, hb, he, hnd, hc⟩ := h
  have h1 := get_map (P := P) hb
  have h2 := fun c => checkKey_int (P := P) w c 9999 kt .i64 k hk
  have h3 := find_key (P := P) (w := w) hk (em_find k es.toList m 0 he)
  have h4 : findPair k m 0 = none := by
    have := find_get k m 0
    rw [hn, Option.map_eq_none_iff] at this
    exact this
  rw [h4] at h3
  have h5 := set_map (P := P) (.map (es.push { key := .int .i64 k, val := z, born := clock }) (clock + 1)) hb
  refine ⟨{ w with heap := w.heap.setIfInBounds b (.map (es.push { key := .int .i64 k, val := z, born := clock }) (clock + 1)) }, clock, ?_, ⟨es, z, by simp [hlt], he, hnd, hc⟩, grown_put _ hlt, by simp⟩
  unfold Instr.mapEntry
  simp only [Sem.run_bind, run_underlying ht, Result.andThen_ok, h1, h2, h3, hz, h5]
  simp [goInt]
theorem IE.store {P : Program} {w : World} {b : Nat} {m : KV} {k : Int} {stamp : Nat} (h : IE w b m k stamp) (t : TypeId) (v : Value) :
    ∃ w', (Instr.entryStore t (.map (some b)) (.int .i64 (stamp : Nat)) v).run P w = .ok () w' ∧ IM w' b (m ++ [(k, v)]) ∧ w.grownBy w' (some b) ∧ w'.heap.size = w.heap.size := by
  obtain ⟨es, z, hb, he, hnd, hc⟩ := h
  have hlt : b < w.heap.size := (Array.getElem?_eq_some_iff.1 hb).1
  have h1 := get_map (P := P) hb
  have hf : (es.push { key := .int .i64 k, val := z, born := stamp }).findIdx? (fun e => (e.born : Int) == (stamp : Int)) = some es.size := by
    rw [Array.findIdx?_eq_some_iff_getElem]
    refine ⟨by simp, by simp, fun j hj => ?_⟩
    rw [Array.getElem_push_lt hj]
    have := hc es[j] (by simp)
    simp
    omega
  have h5 := set_map (P := P) (.map ((es.push { key := .int .i64 k, val := z, born := stamp }).modify es.size fun e => { e with val := v }) (stamp + 1)) hb
  have e1 : ((es.push { key := .int .i64 k, val := z, born := stamp }).modify es.size fun e => { e with val := v }) = es.push { key := .int .i64 k, val := v, born := stamp } := by
    apply Array.ext_getElem?
    intro j
    rw [Array.getElem?_modify]
    by_cases hj : es.size = j
    · subst hj; simp
    · rw [if_neg hj]
      simp only [Array.getElem?_push]
      rw [if_neg (by omega), if_neg (by omega)]
  rw [e1] at h5
  refine ⟨{ w with heap := w.heap.setIfInBounds b (.map (es.push { key := .int .i64 k, val := v, born := stamp }) (stamp + 1)) }, ?_, IM.put hlt (es.push { key := .int .i64 k, val := v, born := stamp }) (stamp + 1) ?_ ?_ ?_, grown_put _ hlt, by simp⟩
  · unfold Instr.entryStore
    simp only [Sem.run_bind, h1, Result.andThen_ok, asInt, asIntOf, Sem.run_pure, hf, e1]
    exact h5
  · simp only [EM, Array.toList_push, List.map_append, List.map_cons, List.map_nil] at he ⊢
    rw [he]
  · simp only [Array.toList_push, List.map_append, List.map_cons, List.map_nil]
    rw [List.nodup_append]
    refine ⟨hnd, by simp, fun a ha c hc' => ?_⟩
    obtain ⟨e, he', rfl⟩ := List.mem_map.1 ha
    simp at hc'
    have := hc e he'
    omega
  · intro e he'
    simp only [Array.toList_push, List.mem_append, List.mem_singleton] at he'
    rcases he' with h | h
    · have := hc e h; omega
    · subst h; simp
theorem wp_mentry (w : World) (hg : o.guard = none) (m x : Operand) (t : TypeId) (hop : o.op = Op.mapEntry t m x) (kt et : TypeId) (z : Value) (ht : P.underlying t = some (.map kt et)) (hk : P.underlying kt = some (.int .i64)) (hz : ∀ w, (zeroValue et).run P w = .ok z w) (b : Nat) (M : KV) (k : Int)
    (hm : a.eval m = .map (some b)) (hx : a.eval x = .int .i64 k) (hown : IM w b M) (hn : getM M k = none)
    (hK : ∀ w' stamp, IE w' b M k stamp → w.grownBy w' (some b) → w'.heap.size = w.heap.size → wpList P ops Q rest (a.put o.dst (.tuple #[z, .int .i64 (stamp : Nat)])) w') : wpList P ops Q (o :: rest) a w := by
  refine wpList_plain hg fun K' hK' => ?_
  obtain ⟨w', stamp, hrun, r1, r2, r3⟩ := hown.entry (P := P) ht hk hz k hn
  unfold Oper.wp
  simp [execOp, hop, hm, hx, hrun, Result.andThen]
  exact hK' _ _ (hK w' stamp r1 r2 r3)
theorem wp_estore (w : World) (hg : o.guard = none) (m s x : Operand) (t : TypeId) (hop : o.op = Op.entryStore t m s x) (b : Nat) (M : KV) (k : Int) (stamp : Nat) (v : Value) (hm : a.eval m = .map (some b)) (hs : a.eval s = .int .i64 (stamp : Nat)) (hx : a.eval x = v) (hown : IE w b M k stamp)
    (hK : ∀ w', IM w' b (M ++ [(k, v)]) → w.grownBy w' (some b) → w'.heap.size = w.heap.size → wpList P ops Q rest (a.put o.dst undef) w') : wpList P ops Q (o :: rest) a w := by
  refine wpList_plain hg fun K' hK' => ?_
  obtain ⟨w', hrun, r1, r2, r3⟩ := hown.store (P := P) t v
  unfold Oper.wp
  simp [execOp, hop, hm, hs, hx, hrun, Result.andThen]
  exact hK' _ _ (hK w' r1 r2 r3)
end
end Go.Bk
