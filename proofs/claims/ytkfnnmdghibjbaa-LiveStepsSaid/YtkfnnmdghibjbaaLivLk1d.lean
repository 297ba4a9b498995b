/-
  The memory of live.look while one instruction is at work.
  Conditions: none.
-/
import Derived.Test.YtkfnnmdghibjbaaLivLk1c
namespace Go.Proofs.Ytkfnnmdghibjbaa
open Go.RowKit Go.Bk Go.Bk.Liv
set_option linter.unusedVariables false
set_option linter.unusedSimpArgs false

theorem it_blk_ne {w : World} {b r g : Nat} {m L : KV} {t : TypeId} {cs : Array Value} (h : IT w b r m L) (k : Blk w g t cs) : r ≠ g := by
  obtain ⟨es, clock, seen, h1, h2, h3, h4, h5, _⟩ := h
  intro e
  subst e
  have := h5.symm.trans k
  injection this with this
  cases this
theorem it_own_ne {w : World} {b r base n size : Nat} {m L : KV} {t : TypeId} {v : Value} {xs : List Value} (h : IT w b r m L) (k : w.ownsRow base t size v n xs) : v.ownBlock ≠ some r := by
  rcases k.2 with ⟨h1, _⟩ | ⟨g, cap, cur, h1, h2, h3, _⟩
  · subst h1; simp [Value.ownBlock]
  · subst h1
    intro e
    injection e with e
    exact it_blk_ne h (show Blk w g t cur from h3) e.symm
section
variable {n base bR gF gA gB gFr gW gC : Nat} {rv cc : Array Value} {w0 w w' : World} {bA bB : List Nat} {vF : List Value} {F A B : Sets} {v : Value} {T : List Int} {wt : List Bool}
/-- only the range's own state was written -/
theorem WkRel.turn (h : WkRel n base bR gF gA gB gFr gW rv w0 bA bB vF F v T gC cc A B wt w) {b rI : Nat} {m L : KV} (hI : IT w b rI m L) (hg : w.grownBy w' (some rI)) (hb : base ≤ rI) : WkRel n base bR gF gA gB gFr gW rv w0 bA bB vF F v T gC cc A B wt w' := by
  obtain ⟨h1, h2, h3, h4, h5, h6⟩ := h
  refine ⟨h1.keep hg (fun g t cs hk _ _ e => by injection e with e; exact it_blk_ne hI hk e) (fun b' m' hm e => by injection e with e; exact it_ne_im hI hm e.symm) (fun u hu g hgu e => ?_), h2, own_grown h3 hg (fun g hgg e => it_own_ne hI h3 (hgg.trans e.symm)), h4.grown hg (fun e => by injection e with e; exact it_blk_ne hI h4 e), h5, below_grown h6 hg h1.base_lt (fun g e => by injection e with e; omega)⟩
  obtain ⟨i, hi⟩ := List.mem_iff_getElem?.1 hu
  have hl : i < F.length := by rw [← h1.rf.1]; exact (List.getElem?_eq_some_iff.1 hi).1
  exact it_own_ne hI (h1.rf.2 i u _ hi (List.getElem?_eq_getElem hl)) (hgu.trans e.symm)
/-- only new blocks were made -/
theorem WkRel.new (h : WkRel n base bR gF gA gB gFr gW rv w0 bA bB vF F v T gC cc A B wt w) (hg : w.grownBy w' none) : WkRel n base bR gF gA gB gFr gW rv w0 bA bB vF F v T gC cc A B wt w' := by
  obtain ⟨h1, h2, h3, h4, h5, h6⟩ := h
  exact ⟨h1.keep hg (fun _ _ _ _ _ _ => by simp) (fun _ _ _ => by simp) (fun _ _ _ _ => by simp), h2, own_grown h3 hg (fun g hgg e => by cases e), h4.grown hg (by simp), h5, below_grown h6 hg h1.base_lt (fun g e => by cases e)⟩
end

/-- the instructions behind the one at work, gone through so far: D -/
def WlRel (r : RowD) (n base bR gF gA gB gFr gW : Nat) (rv : Array Value) (w0 : World) (bA bB : List Nat) (vF : List Value) (F : Sets) (v : Value) (T : List Int) (gC : Nat) (cc : Array Value) (wt : List Bool) (A0 B0 : Sets) (i : Nat) (c : CodeD) (s0 : List Int) (vn : Value) (ln D : List Int) (b : Bool) (w : World) : Prop :=
  ∃ A B s t, WkRel n base bR gF gA gB gFr gW rv w0 bA bB vF F v T gC cc A B wt w ∧ Work r A0 B0 A B i c s0 D s t b ∧ w.ownsRow base 3 1 vn ln.length (i64s ln)
/-- one of them, place by place: L are those to come -/
def WiRel (r : RowD) (n base bR gF gA gB gFr gW : Nat) (rv : Array Value) (w0 : World) (bA bB : List Nat) (vF : List Value) (F : Sets) (v : Value) (T : List Int) (gC : Nat) (cc : Array Value) (wt : List Bool) (A0 B0 : Sets) (i : Nat) (c : CodeD) (s0 : List Int) (vn : Value) (ln D : List Int) (k : Nat) (u : List Int) (bk rI : Nat) (A B : Sets) (s t : List Int) (L : KV) (b : Bool) (w : World) : Prop :=
  WkRel n base bR gF gA gB gFr gW rv w0 bA bB vF F v T gC cc A B wt w ∧ Work r A0 B0 A B i c s0 D s t b ∧ w.ownsRow base 3 1 vn ln.length (i64s ln) ∧
    A[k]? = some u ∧ IT w bk rI (setKV u) L ∧ (∀ x ∈ u, x ∉ L.map (·.1) → x ∈ t ∧ (x ∉ c.outs → x ∈ s)) ∧ (∀ x ∈ L.map (·.1), x ∈ u) ∧ base ≤ rI
section
variable {r : RowD} {n base bR gF gA gB gFr gW gC i : Nat} {rv cc : Array Value} {w0 w w' : World} {bA bB : List Nat} {vF : List Value} {F : Sets} {v : Value} {T : List Int} {wt : List Bool} {A0 B0 A B : Sets} {c : CodeD} {s0 s t ln D u : List Int} {vn : Value} {b : Bool} {k bk rI : Nat} {L : KV}
theorem WiRel.start (h1 : WkRel n base bR gF gA gB gFr gW rv w0 bA bB vF F v T gC cc A B wt w) (h2 : Work r A0 B0 A B i c s0 D s t b) (h3 : w.ownsRow base 3 1 vn ln.length (i64s ln)) (hu : A[k]? = some u) (hg : w.grownBy w' none) (hI : IT w' bk w.heap.size (setKV u) (setKV u)) :
    WiRel r n base bR gF gA gB gFr gW rv w0 bA bB vF F v T gC cc wt A0 B0 i c s0 vn ln D k u bk w.heap.size A B s t (setKV u) b w' := by
  have e : (setKV u).map (·.1) = u := by simp [setKV, Function.comp_def]
  refine ⟨h1.new hg, h2, own_grown h3 hg (fun g hgg e => by cases e), hu, hI, fun x hx hn => absurd (by rw [e]; exact hx) hn, fun x hx => by rw [e] at hx; exact hx, h1.1.base_lt⟩
/-- all its places were gone through -/
theorem WiRel.done (h : WiRel r n base bR gF gA gB gFr gW rv w0 bA bB vF F v T gC cc wt A0 B0 i c s0 vn ln D k u bk rI A B s t [] b w) :
    WlRel r n base bR gF gA gB gFr gW rv w0 bA bB vF F v T gC cc wt A0 B0 i c s0 vn ln (D ++ [(k : Int)]) b w := by
  obtain ⟨h1, h2, h3, h4, h5, h6, h7, h8⟩ := h
  exact ⟨A, B, s, t, h1, h2.next h4 (fun x hx => h6 x hx (by simp)), h3⟩
/-- the next place -/
theorem WiRel.turn {L1 L2 : KV} {p : Int} {x : Value} (h : WiRel r n base bR gF gA gB gFr gW rv w0 bA bB vF F v T gC cc wt A0 B0 i c s0 vn ln D k u bk rI A B s t (L1 ++ (p, x) :: L2) b w) (hI : IT w' bk rI (setKV u) (L1 ++ L2)) (hg : w.grownBy w' (some rI)) :
    WkRel n base bR gF gA gB gFr gW rv w0 bA bB vF F v T gC cc A B wt w' ∧ w'.ownsRow base 3 1 vn ln.length (i64s ln) ∧ p ∈ u := by
  obtain ⟨h1, h2, h3, h4, h5, h6, h7, h8⟩ := h
  exact ⟨h1.turn h5 hg h8, own_grown h3 hg (fun g hgg e => it_own_ne h5 h3 (hgg.trans e.symm)), h7 p (by simp)⟩
theorem kv_out {L1 L2 : KV} {p y : Int} {x : Value} (h : y ∉ (L1 ++ L2).map (·.1)) (hp : y ≠ p) : y ∉ (L1 ++ (p, x) :: L2).map (·.1) := by
  simp only [List.map_append, List.map_cons, List.mem_append, List.mem_cons, not_or] at h ⊢
  exact ⟨h.1, hp, h.2⟩
theorem kv_in {L1 L2 : KV} {p y : Int} {x : Value} (h : y ∈ (L1 ++ L2).map (·.1)) : y ∈ (L1 ++ (p, x) :: L2).map (·.1) := by
  simp only [List.map_append, List.map_cons, List.mem_append, List.mem_cons] at h ⊢
  rcases h with h | h
  · exact .inl h
  · exact .inr (.inr h)
/-- it is live behind; and it is an Out, or known ahead already -/
theorem WiRel.skip {L1 L2 : KV} {p : Int} {x : Value} {w1 w2 : World} {bj : Nat} (h : WiRel r n base bR gF gA gB gFr gW rv w0 bA bB vF F v T gC cc wt A0 B0 i c s0 vn ln D k u bk rI A B s t (L1 ++ (p, x) :: L2) b w) (hI : IT w1 bk rI (setKV u) (L1 ++ L2)) (hg : w.grownBy w1 (some rI))
    (hk : bA[k]? = some bk) (hbj : bB[i]? = some bj) (hm : IM w2 bj (setKV (ins t p))) (hg2 : w1.grownBy w2 (some bj)) (hc : r.code[i]? = some c) (hkn : (k : Int) ∈ nextOf c i) (hs : p ∉ c.outs → p ∈ s) :
    WiRel r n base bR gF gA gB gFr gW rv w0 bA bB vF F v T gC cc wt A0 B0 i c s0 vn ln D k u bk rI A (B.set i (ins t p)) s (ins t p) (L1 ++ L2) b w2 := by
  obtain ⟨q1, q2, q3⟩ := h.turn hI hg
  obtain ⟨h1, h2, h3, h4, h5, h6, h7, h8⟩ := h
  have hlb : LiveB r i p := ⟨c, hc, k, hkn, h2.snd.sA k u p h4 q3⟩
  have hmj := q1.1.mb i bj t hbj h2.b
  have hnd := List.nodup_append.1 q1.1.nd
  have hne : bj ≠ bk := fun e => hnd.2.2 bk (List.mem_of_getElem? hk) bj (List.mem_of_getElem? hbj) e.symm
  refine ⟨q1.putB hbj h2.b hg2 hm, h2.behind hlb, own_grown q2 hg2 (fun g hgg e => hmj.own_ne q2 (hgg.trans e.symm)), h4, hI.grown hg2 (fun e => by injection e with e; exact hne e) (fun e => by injection e with e; exact it_ne_im hI hmj e), fun y hy hn => ?_, fun y hy => h7 y (kv_in hy), h8⟩
  by_cases hp : y = p
  · subst hp
    exact ⟨mem_ins.2 (.inr rfl), hs⟩
  · obtain ⟨a1, a2⟩ := h6 y hy (kv_out hn hp)
    exact ⟨mem_ins.2 (.inl a1), a2⟩
/-- and it is put in ahead -/
theorem WiRel.put {L1 L2 : KV} {p : Int} {x : Value} {w1 w2 w3 : World} {bi bj : Nat} (h : WiRel r n base bR gF gA gB gFr gW rv w0 bA bB vF F v T gC cc wt A0 B0 i c s0 vn ln D k u bk rI A B s t (L1 ++ (p, x) :: L2) b w) (hI : IT w1 bk rI (setKV u) (L1 ++ L2)) (hg : w.grownBy w1 (some rI))
    (hk : bA[k]? = some bk) (hbj : bB[i]? = some bj) (hm : IM w2 bj (setKV (ins t p))) (hg2 : w1.grownBy w2 (some bj)) (hc : r.code[i]? = some c) (hkn : (k : Int) ∈ nextOf c i) (ho : p ∉ c.outs) (hs : p ∉ s) (hbi : bA[i]? = some bi) (hm3 : IM w3 bi (setKV (s ++ [p]))) (hg3 : w2.grownBy w3 (some bi)) :
    WiRel r n base bR gF gA gB gFr gW rv w0 bA bB vF F v T gC cc wt A0 B0 i c s0 vn ln D k u bk rI (A.set i (s ++ [p])) (B.set i (ins t p)) (s ++ [p]) (ins t p) (L1 ++ L2) true w3 := by
  obtain ⟨q1, q2, q3⟩ := h.turn hI hg
  obtain ⟨h1, h2, h3, h4, h5, h6, h7, h8⟩ := h
  have hlb : LiveB r i p := ⟨c, hc, k, hkn, h2.snd.sA k u p h4 q3⟩
  have hmj := q1.1.mb i bj t hbj h2.b
  have hnd := List.nodup_append.1 q1.1.nd
  have hne : bj ≠ bk := fun e => hnd.2.2 bk (List.mem_of_getElem? hk) bj (List.mem_of_getElem? hbj) e.symm
  have hki : k ≠ i := by
    intro e
    subst e
    rw [h2.a] at h4
    injection h4 with h4
    exact hs (h4 ▸ q3)
  have hne2 : bi ≠ bk := fun e => hki (nodup_at hnd.1 (hk.trans (congrArg some e.symm)) hbi)
  have z1 := q1.putB hbj h2.b hg2 hm
  have z2 := h2.behind hlb
  have z3 := own_grown q2 hg2 (fun g hgg e => hmj.own_ne q2 (hgg.trans e.symm))
  have z4 := hI.grown hg2 (fun e => by injection e with e; exact hne e) (fun e => by injection e with e; exact it_ne_im hI hmj e)
  have hmi := z1.1.ma i bi s hbi z2.a
  refine ⟨z1.putA hbi z2.a hg3 hm3, z2.fresh (hlb.ahead hc ho) hs (mem_ins.2 (.inr rfl)), own_grown z3 hg3 (fun g hgg e => hmi.own_ne z3 (hgg.trans e.symm)), by rw [List.getElem?_set_ne (fun e => hki e.symm)]; exact h4, z4.grown hg3 (fun e => by injection e with e; exact hne2 e) (fun e => by injection e with e; exact it_ne_im z4 hmi e), fun y hy hn => ?_, fun y hy => h7 y (kv_in hy), h8⟩
  by_cases hp : y = p
  · subst hp
    exact ⟨mem_ins.2 (.inr rfl), fun _ => by simp⟩
  · obtain ⟨a1, a2⟩ := h6 y hy (kv_out hn hp)
    exact ⟨mem_ins.2 (.inl a1), fun ho => List.mem_append_left _ (a2 ho)⟩
end
/-- back to the search: whoever comes ahead and is to be looked at again; X are those left -/
theorem WlRel.main {r : RowD} {n base bR gF gA gB gFr gW gC i : Nat} {rv cc : Array Value} {w0 w : World} {bA bB : List Nat} {vF : List Value} {F : Sets} {v : Value} {T l : List Int} {wt : List Bool} {A0 B0 : Sets} {c : CodeD} {s0 ln D : List Int} {vn : Value} {b : Bool} {p : Nat}
    (h : WlRel r n base bR gF gA gB gFr gW rv w0 bA bB vF F v T gC cc (wt.set i false) A0 B0 i c s0 vn ln D b w) (hi : LkInv r A0 B0 (T ++ [(i : Int)]) wt []) (hc : r.code[i]? = some c) (hD : ∀ k : Nat, (k : Int) ∈ nextOf c i → (k : Int) ∈ D) (hF : FromOk r F) (hl : F[i]? = some l)
    (hsm : ∀ A B, Snd r A B → ∀ s ∈ A, s.length ≤ p) (hn : r.code.length = n) :
    ∃ A B, MainRel r n base bR gF gA gB gFr gW rv w0 bA bB vF F v T A B (wt.set i false) (if b then l else []) w ∧ (b = true → sumL A0 < sumL A) ∧ (b = false → sumL A = sumL A0) ∧ sumL A ≤ n * p := by
  obtain ⟨A, B, s, t, h1, h2, h3⟩ := h
  have e := sum_set (s' := s) h2.i0
  rw [← h2.ea] at e
  refine ⟨A, B, ⟨h1.1, h1.2.1, h1.2.2.1, hi.done hc h2 hD hF hl, h1.2.2.2.2.2⟩, fun hb => ?_, fun hb => ?_, ?_⟩
  · have := h2.ln hb; omega
  · have := h2.ls hb; rw [this] at e; omega
  · have := sum_le (hsm A B h2.snd)
    rw [h2.snd.lA, hn] at this
    exact this
/-- one that waits already is not put in again -/
theorem MainRel.waits {r : RowD} {n base bR gF gA gB gFr gW : Nat} {rv : Array Value} {w0 w : World} {bA bB : List Nat} {vF : List Value} {F : Sets} {v : Value} {T X : List Int} {A B : Sets} {wt : List Bool} {j : Nat} (h : MainRel r n base bR gF gA gB gFr gW rv w0 bA bB vF F v T A B wt ((j : Int) :: X) w) (hj : wt[j]? = some true) :
    MainRel r n base bR gF gA gB gFr gW rv w0 bA bB vF F v T A B wt X w :=
  ⟨h.1, h.2.1, h.2.2.1, h.2.2.2.1.wait hj, h.2.2.2.2⟩
/-- one is put in -/
theorem MainRel.push {r : RowD} {n base bR gF gA gB gFr gW : Nat} {rv : Array Value} {w0 w w' : World} {bA bB : List Nat} {vF : List Value} {F : Sets} {v v' : Value} {T X : List Int} {A B : Sets} {wt : List Bool} {j : Nat} (h : MainRel r n base bR gF gA gB gFr gW rv w0 bA bB vF F v T A B wt ((j : Int) :: X) w) (hj : wt[j]? = some false)
    (ho : w'.ownsRow base 3 1 v' (T.length + 1) (i64s (T ++ [(j : Int)]))) (hg : w.grownBy w' v.ownBlock) (hv : v'.ownBlock = v.ownBlock ∨ v'.ownBlock = some w.heap.size) :
    MainRel r n base bR gF gA gB gFr gW rv w0 bA bB vF F v' (T ++ [(j : Int)]) A B (wt.set j true) X (w'.setCell ⟨gW, j, none⟩ (.bool true)) := by
  obtain ⟨h1, h2, h3, h4, h5⟩ := h
  have m := h1.keep hg (fun g t cs hb q1 q2 => own_ne h3 hb (fun e => q1 e.symm)) (fun b m hb => hb.own_ne h3) (fun u hu g hgu => h2.2 u hu g hgu)
  have hb := below_grown h5 hg h1.base_lt (fun g hgg => (h3.lt g hgg).1)
  refine ⟨m.wait j true, ⟨h2.1, fun a ha g hga => ?_⟩, ?_, h4.push hj, hb.setCell (p := ⟨gW, j, none⟩) h1.lW _⟩
  · rcases hv with hv | hv
    · rw [hv]; exact h2.2 a ha g hga
    · rw [hv]
      intro e
      injection e with e
      obtain ⟨q, hq⟩ := List.mem_iff_getElem?.1 ha
      have hl : q < F.length := by rw [← h1.rf.1]; exact (List.getElem?_eq_some_iff.1 hq).1
      have := ((h1.rf.2 q a _ hq (List.getElem?_eq_getElem hl)).lt g hga).2
      omega
  · have e5 : (T ++ [(j : Int)]).length = T.length + 1 := by simp
    rw [e5]
    exact own_other ho (own_ne ho m.w (by decide))
theorem zero_bool (w : World) : (zeroValue 4).run Try.prog w = .ok (.bool false) w := by kernel_rfl
theorem muL_more {n p : Nat} {A A' : Sets} {T T' : List Int} (h1 : sumL A < sumL A') (h2 : sumL A' ≤ n * p) (h3 : T'.length ≤ n) : muL n p A' T' < muL n p A T := by
  unfold muL
  generalize n * p = q at *
  have h4 : (q - sumL A' + 1) * (n + 1) ≤ (q - sumL A) * (n + 1) := Nat.mul_le_mul_right _ (by omega)
  rw [Nat.add_mul] at h4
  omega
theorem muL_less {n p : Nat} {A A' : Sets} {T : List Int} {x : Int} (h1 : sumL A' = sumL A) : muL n p A' T < muL n p A (T ++ [x]) := by
  unfold muL
  rw [h1]
  simp
theorem own_max {w : World} {p n : Nat} {e : TypeId} {v : Value} {xs : List Value} (h : w.ownsRow p e 1 v n xs) : n ≤ 9223372036854775807 := by
  rcases h.2 with ⟨_, h⟩ | ⟨g', cap', cur, rfl, h1, h2, h3, h4, r⟩
  · omega
  · unfold maxLen at h4
    omega
theorem MainRel.none {r : RowD} {n base bR gF gA gB gFr gW : Nat} {rv : Array Value} {w0 w : World} {bA bB : List Nat} {vF : List Value} {F : Sets} {v : Value} {T l : List Int} {A B : Sets} {wt : List Bool} (h : MainRel r n base bR gF gA gB gFr gW rv w0 bA bB vF F v T A B wt (if false = true then l else []) w) :
    MainRel r n base bR gF gA gB gFr gW rv w0 bA bB vF F v T A B wt [] w := h
theorem MainRel.all {r : RowD} {n base bR gF gA gB gFr gW : Nat} {rv : Array Value} {w0 w : World} {bA bB : List Nat} {vF : List Value} {F : Sets} {v : Value} {T l : List Int} {A B : Sets} {wt : List Bool} (h : MainRel r n base bR gF gA gB gFr gW rv w0 bA bB vF F v T A B wt (if true = true then l else []) w) :
    MainRel r n base bR gF gA gB gFr gW rv w0 bA bB vF F v T A B wt l w := h
theorem MainRel.drew {r : RowD} {n base bR gF gA gB gFr gW : Nat} {rv : Array Value} {w0 w : World} {bA bB : List Nat} {vF : List Value} {F : Sets} {v : Value} {T l : List Int} {A B : Sets} {wt : List Bool} (h : MainRel r n base bR gF gA gB gFr gW rv w0 bA bB vF F v T A B wt l w) :
    MainRel r n base bR gF gA gB gFr gW rv w0 bA bB vF F v T A B wt l w.drew := ⟨h.1.drew, h.2.1, own_drew h.2.2.1, h.2.2.2.1, h.2.2.2.2.drew⟩
theorem MainRel.alloc {r : RowD} {n base bR gF gA gB gFr gW : Nat} {rv : Array Value} {w0 w : World} {bA bB : List Nat} {vF : List Value} {F : Sets} {v : Value} {T l : List Int} {A B : Sets} {wt : List Bool} (h : MainRel r n base bR gF gA gB gFr gW rv w0 bA bB vF F v T A B wt l w) (o : Obj) :
    MainRel r n base bR gF gA gB gFr gW rv w0 bA bB vF F v T A B wt l (w.alloc o) := ⟨h.1.grown ((Below.refl _ _).alloc (Nat.le_refl _) _), h.2.1, own_alloc h.2.2.1 _, h.2.2.2.1, h.2.2.2.2.alloc h.1.base_lt _⟩
end Go.Proofs.Ytkfnnmdghibjbaa
