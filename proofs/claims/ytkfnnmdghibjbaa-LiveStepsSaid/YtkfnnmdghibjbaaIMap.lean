/-
  Maps by numbers that a call writes out as a literal: what an insertion of a new key and a look-up do.
  Conditions: none.
-/
import Derived.Test.YtkfnnmdghibjbaaBase
namespace Go.Bk
open Go Go.RowKit

/-- the entries of a literal map by numbers -/
def ents : Nat → List (Int × Value) → List MapEntry
  | _, [] => []
  | i, (k, v) :: r => { key := .int .i64 k, val := v, born := i } :: ents (i + 1) r

theorem ents_app : ∀ (i : Nat) (a b : List (Int × Value)), ents i (a ++ b) = ents i a ++ ents (i + a.length) b
  | i, [], b => by simp [ents]
  | i, (k, v) :: a, b => by
    simp only [List.cons_append, ents, ents_app (i + 1) a b, List.length_cons]
    rw [show i + 1 + a.length = i + (a.length + 1) from by omega]

/-- the place and the value of a key -/
def findPair (op : Int) : List (Int × Value) → Nat → Option (Nat × Value)
  | [], _ => none
  | (k, v) :: r, j => if op = k then some (j, v) else findPair op r (j + 1)

theorem findNow_ents (op : Int) : ∀ (l : List (Int × Value)) (i j : Nat), Instr.findNow (.int .i64) (.int .i64 op) (ents i l) j = some (findPair op l j)
  | [], _, _ => rfl
  | (k, v) :: r, i, j => by
    simp only [ents, Instr.findNow, Instr.sameNow, findPair, if_true]
    by_cases h : op = k
    · simp [h]
    · have : (op == k) = false := by simp [h]
      rw [this]
      simp only [if_neg h]
      exact findNow_ents op r (i + 1) (j + 1)

/-- the map that a literal makes -/
def lit (l : List (Int × Value)) : Obj := .map (ents 0 l).toArray l.length

theorem checkKey_int {P : Program} (w : World) (b : Bool) (n : Nat) (t : TypeId) (k : IntKind) (x : Int) (h : P.underlying t = some (.int .i64)) : (Instr.checkKey b (n + 1) t (.int k x)).run P w = .ok () w := by
  simp [Instr.checkKey, run_underlying h]

theorem get_map {P : Program} {w : World} {r : Nat} {es : Array MapEntry} {clock : Nat} (hb : w.heap[r]? = some (.map es clock)) : (getObj r).run P w = .ok (.map es clock) w := by
  simp [getObj, Sem.run, hb]
theorem set_map {P : Program} {w : World} {r : Nat} {es : Array MapEntry} {clock : Nat} (o : Obj) (hb : w.heap[r]? = some (.map es clock)) : (setObj r o).run P w = .ok () { w with heap := w.heap.setIfInBounds r o } := by
  simp [setObj, Sem.run, hb]
theorem find_key {P : Program} {w : World} {kt : TypeId} {d : TypeDesc} {k : Value} {l : List MapEntry} {a : Option (Nat × Value)} (hd : P.underlying kt = some d) (h : Instr.findNow d k l 0 = some a) : (Instr.findKey kt k l).run P w = .ok a w := by
  simp [Instr.findKey, run_underlying hd, h]

theorem alloc_put (W : World) (o o' : Obj) : ({ W.alloc o with heap := (W.alloc o).heap.setIfInBounds W.heap.size o' } : World) = W.alloc o' := by
  show ({ ({ W with heap := W.heap.push o } : World) with heap := (W.heap.push o).setIfInBounds W.heap.size o' } : World) = { W with heap := W.heap.push o' }
  have e : (W.heap.push o).setIfInBounds W.heap.size o' = W.heap.push o' := by
    apply Array.ext_getElem?
    intro i
    simp only [Array.getElem?_setIfInBounds, Array.getElem?_push, Array.size_push]
    by_cases h : W.heap.size = i
    · subst h
      simp
    · rw [if_neg h, if_neg (by omega), if_neg (by omega)]
  rw [e]

theorem run_insert_lit {P : Program} (W : World) (t kt et : TypeId) (l : List (Int × Value)) (k : Int) (v : Value) (ht : P.underlying t = some (.map kt et)) (hk : P.underlying kt = some (.int .i64)) (hn : findPair k l 0 = none) :
    (Instr.mapUpdate t (.map (some W.heap.size)) (.int .i64 k) v).run P (W.alloc (lit l)) = .ok () (W.alloc (lit (l ++ [(k, v)]))) := by
  have hb : (W.alloc (lit l)).heap[W.heap.size]? = some (.map (ents 0 l).toArray l.length) := heap_alloc_new W _
  have h1 := get_map (P := P) hb
  have h2 := checkKey_int (P := P) (W.alloc (lit l)) false 9999 kt .i64 k hk
  have h3 := find_key (P := P) (w := W.alloc (lit l)) hk (findNow_ents k l 0 0)
  rw [hn] at h3
  have h4 := set_map (P := P) (.map ((ents 0 l).toArray.push { key := .int .i64 k, val := v, born := l.length }) (l.length + 1)) hb
  rw [alloc_put] at h4
  have e : lit (l ++ [(k, v)]) = .map ((ents 0 l).toArray.push { key := .int .i64 k, val := v, born := l.length }) (l.length + 1) := by
    unfold lit
    rw [ents_app]
    simp [ents]
  rw [e]
  unfold Instr.mapUpdate
  simp only [Sem.run_bind, run_underlying ht, Result.andThen_ok, h1, h2, h3, h4]

theorem run_lookup_lit {P : Program} (W : World) (t kt et : TypeId) (z : Value) (l : List (Int × Value)) (k : Int) (ht : P.underlying t = some (.map kt et)) (hk : P.underlying kt = some (.int .i64)) (hz : ∀ w, (zeroValue et).run P w = .ok z w) :
    (Instr.lookup t (.map (some W.heap.size)) (.int .i64 k) true).run P (W.alloc (lit l)) = .ok (.tuple #[((findPair k l 0).map (·.2)).getD z, .bool (findPair k l 0).isSome]) (W.alloc (lit l)) := by
  have hb : (W.alloc (lit l)).heap[W.heap.size]? = some (.map (ents 0 l).toArray l.length) := heap_alloc_new W _
  have h1 := get_map (P := P) hb
  have h2 := fun b => checkKey_int (P := P) (W.alloc (lit l)) b 9999 kt .i64 k hk
  have h3 := find_key (P := P) (w := W.alloc (lit l)) hk (findNow_ents k l 0 0)
  unfold Instr.lookup
  simp only [Sem.run_bind, run_underlying ht, Result.andThen_ok, h1, Sem.run_pure, h2, h3]
  cases findPair k l 0 with
  | none => simp [hz, Result.andThen]
  | some p => simp [Sem.run_pure]

theorem run_lookup_lit1 {P : Program} (W : World) (t kt et : TypeId) (z : Value) (l : List (Int × Value)) (k : Int) (ht : P.underlying t = some (.map kt et)) (hk : P.underlying kt = some (.int .i64)) (hz : ∀ w, (zeroValue et).run P w = .ok z w) :
    (Instr.lookup t (.map (some W.heap.size)) (.int .i64 k) false).run P (W.alloc (lit l)) = .ok (((findPair k l 0).map (·.2)).getD z) (W.alloc (lit l)) := by
  have hb : (W.alloc (lit l)).heap[W.heap.size]? = some (.map (ents 0 l).toArray l.length) := heap_alloc_new W _
  have h1 := get_map (P := P) hb
  have h2 := fun b => checkKey_int (P := P) (W.alloc (lit l)) b 9999 kt .i64 k hk
  have h3 := find_key (P := P) (w := W.alloc (lit l)) hk (findNow_ents k l 0 0)
  unfold Instr.lookup
  simp only [Sem.run_bind, run_underlying ht, Result.andThen_ok, h1, Sem.run_pure, h2, h3]
  cases findPair k l 0 with
  | none => simp [hz]
  | some p => simp [Sem.run_pure]

end Go.Bk
