/-
  Words for memory that all texts of this seat share: a slice that reads as a list of cells, bytes, and how both are kept.
  Conditions: none.
-/
import Derived.WalkKit
import Derived.WalkSpells
import Derived.WalkLawsBesides
import Derived.Lib.Hide
import Derived.Maps.AppendAt
import Derived.Laws.BytesArg
import Derived.Laws.IdiomStrings
namespace Go.Bk
open Go Go.RowKit

/-- A slice's address and length: its elements (of one cell each) are xs in this world. -/
def Src (w : World) (A : Option Addr) (n : Nat) (xs : List Value) : Prop :=
  xs.length = n ∧ (0 < n → ∃ b o, A = some ⟨b, o, none⟩ ∧ b < w.heap.size ∧ ∀ j u, xs[j]? = some u → w.cell? ⟨b, o + j, none⟩ = some u)

theorem Src.len {w : World} {A : Option Addr} {n : Nat} {xs : List Value} (h : Src w A n xs) : xs.length = n := h.1

theorem Src.nil (w : World) (A : Option Addr) : Src w A 0 [] := ⟨rfl, fun h => absurd h (by omega)⟩

theorem Src.below {w w' : World} {B : Nat} {A : Option Addr} {n : Nat} {xs : List Value} (h : Src w A n xs) (hb : Below B w w') (hB : w.heap.size ≤ B) : Src w' A n xs :=
  ⟨h.1, fun hn => by
    obtain ⟨b, o, e, hlt, hc⟩ := h.2 hn
    exact ⟨b, o, e, Nat.lt_of_lt_of_le hlt hb.size, fun j u hu => (hb.cell (by show b < B; omega)).trans (hc j u hu)⟩⟩

theorem Src.at_ {w : World} {b o n k : Nat} {s : Option Nat} {xs : List Value} (h : Src w (some ⟨b, o, s⟩) n xs) (hk : k < n) :
    w.cell? ⟨b, o + k, none⟩ = some (xs[k]'(by rw [h.1]; exact hk)) := by
  obtain ⟨b', o', e, _, hc⟩ := h.2 (by omega)
  injection e with e
  injection e with e1 e2
  subst e1
  subst e2
  exact hc k _ (List.getElem?_eq_getElem (by rw [h.1]; exact hk))

theorem Src.addr {w : World} {A : Option Addr} {n : Nat} {xs : List Value} (h : Src w A n xs) (hn : 0 < n) : ∃ b o, A = some ⟨b, o, none⟩ ∧ b < w.heap.size := by
  obtain ⟨b, o, e, hlt, _⟩ := h.2 hn
  exact ⟨b, o, e, hlt⟩

theorem Src.of_own {w : World} {base : Nat} {e : TypeId} {A : Option Addr} {n c : Nat} {xs : List Value} (h : w.ownsRow base e 1 (.slice A n c) n xs) : Src w A n xs := by
  refine ⟨by simpa using h.1, fun hn => ?_⟩
  rcases h.2 with ⟨h1, h2⟩ | ⟨g, cap, cur, h1, _, hg, _, _, _, _⟩
  · omega
  · have hA : A = some ⟨g, 0, none⟩ := by injection h1
    subst hA
    refine ⟨g, 0, rfl, (Array.getElem?_eq_some_iff.1 hg).1, fun j u hu => ?_⟩
    have := h.cells (g := g) rfl j u hu
    rwa [Addr.add_lit] at this

theorem own_below {w w' : World} {B base : Nat} {e : TypeId} {size n : Nat} {v : Value} {xs : List Value} (h : w.ownsRow base e size v n xs) (hb : Below B w w') (hB : w.heap.size ≤ B) : w'.ownsRow base e size v n xs := by
  refine ⟨h.1, ?_⟩
  rcases h.2 with h2 | ⟨g, cap, cur, h1, h2, hg, r⟩
  · exact .inl h2
  · refine .inr ⟨g, cap, cur, h1, h2, ?_, r⟩
    rw [hb.block g (by have := (Array.getElem?_eq_some_iff.1 hg).1; omega)]
    exact hg

theorem own_mono {w : World} {base base' : Nat} {e : TypeId} {size n : Nat} {v : Value} {xs : List Value} (h : w.ownsRow base e size v n xs) (hb : base' ≤ base) : w.ownsRow base' e size v n xs := by
  refine ⟨h.1, ?_⟩
  rcases h.2 with h2 | ⟨g, cap, cur, h1, h2, r⟩
  · exact .inl h2
  · exact .inr ⟨g, cap, cur, h1, Nat.le_trans hb h2, r⟩

/-- the shape of an owned slice value -/
theorem own_shape {w : World} {base : Nat} {e : TypeId} {size n : Nat} {v : Value} {xs : List Value} (h : w.ownsRow base e size v n xs) :
    ∃ A c, v = .slice A n c ∧ n ≤ c := by
  rcases h.2 with ⟨h1, h2⟩ | ⟨g, cap, cur, h1, _, _, h4, _⟩
  · subst h2
    exact ⟨none, 0, h1, Nat.le_refl _⟩
  · exact ⟨_, _, h1, h4⟩

/-- append of a slice that may be nil, onto a row of the call's own -/
theorem append_src {P : Program} {ops : Array Oper} {rest : List Oper} {o : Oper} {a : Act} {Q : Exit → Act → World → Prop} (w : World) (hgd : o.guard = none) (s x : Operand) (t : TypeId)
    (ho : o.op = .call { callee := .builtin .append, args := #[s, x], argTypes := #[t, t] })
    (base : Nat) (e : TypeId) (z : Value) (bytes : Nat) (ht : P.underlying t = some (.slice e)) (hinfo : (P.info? e).map (fun i => (i.zero, i.size, i.bytes)) = some (some z, 1, bytes)) (hzs : z.cells.size = 1)
    (v : Value) (n : Nat) (xs : List Value) (hs : a.eval s = v) (hown : w.ownsRow base e 1 v n xs)
    (A : Option Addr) (m c : Nat) (news : List Value) (hx : a.eval x = .slice A m c) (hr : Src w A m news) (h1 : ∀ u ∈ news, u.oneCell' = true)
    (h63 : n + m ≤ maxLen) (hbytes : (n + m) * bytes ≤ 140737488355328) (hbase : base ≤ w.heap.size)
    (h : ∀ v' w', w'.ownsRow base e 1 v' (n + m) (xs ++ news) → w.grownBy w' v.ownBlock → wpList P ops Q rest (a.put o.dst v') w') : wpList P ops Q (o :: rest) a w := by
  obtain ⟨i, hi, hz, hsz, hby⟩ := info_parts hinfo
  have key : ∃ v' w', (Builtin.append_ #[t, t] o.type #[v, .slice A m c]).run P w = .ok v' w' ∧ w'.ownsRow base e 1 v' (n + m) (xs ++ news) ∧ w.grownBy w' v.ownBlock := by
    rcases A with _ | ad
    · have hm0 : m = 0 := by
        rcases Nat.eq_zero_or_pos m with h0 | h0
        · exact h0
        · obtain ⟨b, o, had, _⟩ := hr.2 h0
          cases had
      have hm : news = [] := List.eq_nil_of_length_eq_zero (by rw [hr.1, hm0])
      subst hm
      subst hm0
      refine ⟨v, w, ?_, by simpa using hown, World.grownBy.refl w _⟩
      rcases hown.2 with ⟨rfl, rfl⟩ | ⟨g, cap, cur, rfl, _, _, hnc, _⟩
      · simp [Builtin.append_, run_underlying ht, sizeOf, typeInfo, hi, Builtin.lenOf, Builtin.firstCells]
      · simp [Builtin.append_, run_underlying ht, sizeOf, typeInfo, hi, Builtin.lenOf, Builtin.firstCells, hnc, storeCells]
    · obtain ⟨v', w', hrun, h2, h3, _⟩ := run_append_own (P := P) w base t o.type e i z 1 bytes ht hi hz hsz hby hzs (by omega) v n xs hown ad m c news (by simpa using hr.1)
        (fun j u hu => by
          have hj := (List.getElem?_eq_some_iff.1 hu).1
          obtain ⟨b, o, e', _, hc⟩ := hr.2 (by have := hr.1; omega)
          injection e' with e'
          subst e'
          rw [Addr.add_lit]
          exact hc j u hu) h1 h63 hbytes hbase
      exact ⟨v', w', hrun, h2, h3⟩
  obtain ⟨v', w', hrun, h2, h3⟩ := key
  refine wpList_plain hgd fun K hK => ?_
  unfold Oper.wp execOp
  simp only [ho, resolve, invoke, builtin, Sem.run_bind, Sem.run_pure, Result.andThen_ok, List.map_toArray, List.map_cons, List.map_nil, hs, hx, hrun]
  exact hK _ _ (h v' w' h2 h3)

/-- behind an append onto a row of the call's own -/
theorem below_append {B base : Nat} {a w w' : World} {e : TypeId} {size n : Nat} {v : Value} {xs : List Value} (h : Below B a w) (hg : w.grownBy w' v.ownBlock) (hown : w.ownsRow base e size v n xs) (hB : B ≤ base) (hs : B ≤ w.heap.size) : Below B a w' :=
  h.grown hg hs (fun k hk => Nat.le_trans hB (hown.lt k hk).1)

/-- bytes as cells -/
def bys (l : List Nat) : List Value := l.map fun c : Nat => .int .u8 (c : Int)

theorem bys_len (l : List Nat) : (bys l).length = l.length := by simp [bys]
theorem bys_one (l : List Nat) : ∀ u ∈ bys l, u.oneCell' = true := by
  intro u hu
  obtain ⟨_, _, rfl⟩ := List.mem_map.1 hu
  rfl
theorem bys_app (a b : List Nat) : bys (a ++ b) = bys a ++ bys b := by simp [bys]
theorem bys_get {l : List Nat} {k : Nat} (h : k < (bys l).length) : (bys l)[k] = .int .u8 ((l[k]'(by simpa [bys] using h) : Nat) : Int) := by simp [bys]
theorem bys_set (l : List Nat) (k c : Nat) : (bys l).set k (.int .u8 (c : Int)) = bys (l.set k c) := by
  unfold bys
  rw [List.map_set]

/-- all are bytes -/
def AllB (l : List Nat) : Prop := ∀ c ∈ l, c < 256

theorem AllB.get {l : List Nat} (h : AllB l) {k : Nat} (hk : k < l.length) : l[k] < 256 := h _ (List.getElem_mem hk)
theorem AllB.nil : AllB [] := fun _ h => by simp at h
theorem AllB.app {a b : List Nat} (ha : AllB a) (hb : AllB b) : AllB (a ++ b) := fun c hc => by
  rcases List.mem_append.1 hc with h | h
  · exact ha c h
  · exact hb c h

/-- one new cell behind all blocks -/
theorem src_one (w : World) (v : Value) (e : TypeId) : Src (w.alloc (.cells #[v] e)) (some ⟨w.heap.size, 0, none⟩) 1 [v] := by
  refine ⟨rfl, fun _ => ⟨_, _, rfl, by simp, fun j u hu => ?_⟩⟩
  match j, hu with
  | 0, hu =>
    simp at hu
    subst hu
    simp

/-- the text that bytes are -/
def bstr (l : List Nat) : ByteArray := ⟨(l.map UInt8.ofNat).toArray⟩

theorem bstr_toList (l : List Nat) : (bstr l).toList = l.map UInt8.ofNat := by
  unfold bstr
  rw [ByteArray.toList_mk]

theorem map_inj_bytes : ∀ (a b : List Nat), AllB a → AllB b → a.map UInt8.ofNat = b.map UInt8.ofNat → a = b
  | [], [], _, _, _ => rfl
  | [], y :: b, _, _, h => by simp at h
  | x :: a, [], _, _, h => by simp at h
  | x :: a, y :: b, ha, hb, h => by
    simp only [List.map_cons, List.cons.injEq] at h
    obtain ⟨h1, h2⟩ := h
    have hx : x < 256 := ha x (by simp)
    have hy : y < 256 := hb y (by simp)
    have h3 := congrArg UInt8.toNat h1
    simp only [UInt8.toNat_ofNat'] at h3
    rw [map_inj_bytes a b (fun c hc => ha c (by simp [hc])) (fun c hc => hb c (by simp [hc])) h2]
    rw [show x = y from by omega]

theorem bstr_eq {a b : List Nat} (ha : AllB a) (hb : AllB b) : ((bstr a).toList == (bstr b).toList) = decide (a = b) := by
  rw [bstr_toList, bstr_toList, Bool.eq_iff_iff]
  simp only [beq_iff_eq, decide_eq_true_eq]
  exact ⟨map_inj_bytes a b ha hb, fun h => by rw [h]⟩

/-- 'string(b)' of a slice that reads as bytes -/
theorem run_bstr {P : Program} (w : World) (src dst e : TypeId) (hs : P.underlying src = some (.slice e)) (he : P.underlying e = some (.int .u8)) (hd : P.underlying dst = some .string)
    (A : Option Addr) (n c : Nat) (l : List Nat) (h : Src w A n (bys l)) (hl : AllB l) : (convert src dst (.slice A n c)).run P w = .ok (.string (bstr l)) w := by
  have hn : l.length = n := by rw [← h.1, bys_len]
  rcases A with _ | ad
  · have h0 : n = 0 := by
      rcases Nat.eq_zero_or_pos n with h0 | h0
      · exact h0
      · obtain ⟨b, o, had, _⟩ := h.2 h0
        cases had
    have : l = [] := List.eq_nil_of_length_eq_zero (by omega)
    subst this
    rw [run_convert_bytes_nil w src e hs he n c dst hd]
    rfl
  · have hb := run_convert_bytes_back (P := P) w src dst e ad c (l.map UInt8.ofNat) hs he hd (fun j hj => by
      have hj' : j < n := by simp at hj; omega
      obtain ⟨b, o, had, _, hc⟩ := h.2 (by omega)
      injection had with had
      subst had
      rw [Addr.add_lit, hc j _ (List.getElem?_eq_getElem (by rw [h.1]; exact hj')), bys_get]
      have := hl.get (k := j) (by omega)
      simp
      omega)
    rw [List.length_map, hn] at hb
    exact hb

/-- a literal's cells behind all blocks -/
theorem src_lit (w : World) (cs : Array Value) (e : TypeId) : Src (w.alloc (.cells cs e)) (some ⟨w.heap.size, 0, none⟩) cs.size cs.toList := by
  refine ⟨by simp, fun _ => ⟨_, _, rfl, by simp, fun j u hu => ?_⟩⟩
  rw [Nat.zero_add]
  have : (w.alloc (.cells cs e)).cell? ⟨w.heap.size, j, none⟩ = cs[j]? := World.cell?_alloc_mark w cs e (0, 0) j
  rw [this]
  simpa using hu

end Go.Bk
