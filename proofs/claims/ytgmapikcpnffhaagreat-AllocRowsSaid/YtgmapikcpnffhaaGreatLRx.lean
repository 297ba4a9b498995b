/-
 The document's table, what is live ahead and behind, across a call, and what clashes.
 Conditions: none.
-/
import Derived.BigRegion
import Derived.Deep.AppendLies
import Derived.StillTailTactics
import Derived.Test.YtgmapikcpnffhaaGreatLivTm
import Derived.Test.YtgmapikcpnffhaaGreatLivMu
import Derived.Test.YtgmapikcpnffhaaGreatLivRCk3
namespace Go.Bk.Liv
open Go Go.Bk
set_option linter.unusedVariables false
set_option linter.unusedSimpArgs false
/-- what a table of clashes holds: nothing else, and all that is asked -/
structure RS (r : RowD) (P : Nat) (Req : Rel2) (T : Nat → Nat → Bool) : Prop where
 snd : ∀ a b : Nat, a < P → b < P → T a b = true → Clashes r a b
 req : ∀ x y : Nat, x < P → y < P → Req x y → x ≠ y → T x y = true ∧ T y x = true
def put2 (T : Nat → Nat → Bool) (a b : Nat) : Nat → Nat → Bool := if a = b then T else upd (upd T a (fun q => if q = b then true else T a q)) b (fun q => if q = a then true else T b q)
theorem put2_same (T : Nat → Nat → Bool) (a : Nat) : put2 T a a = T := by simp [put2]
theorem put2_ne {T : Nat → Nat → Bool} {a b : Nat} (h : a ≠ b) : put2 T a b = upd (upd T a (fun q => if q = b then true else T a q)) b (fun q => if q = a then true else T b q) := by simp [put2, h]
theorem put2_iff {T : Nat → Nat → Bool} {a b x y : Nat} : put2 T a b x y = true ↔ T x y = true ∨ (a ≠ b ∧ ((x = a ∧ y = b) ∨ (x = b ∧ y = a))) := by
 by_cases h : a = b
 ·subst h
  rw [put2_same]
  simp
 ·rw [put2_ne h]
  unfold upd
  by_cases hb : x = b
  ·subst hb
   rw [if_pos rfl]
   by_cases hy : y = a
   ·subst hy; simp [h]
   ·rw [if_neg hy]
    simp [hy]
    intro _ h2
    exact absurd h2.symm h
  ·rw [if_neg hb]
   by_cases ha : x = a
   ·subst ha
    rw [if_pos rfl]
    by_cases hy : y = b
    ·subst hy; simp [h]
    ·rw [if_neg hy]; simp [hy, hb]
   ·rw [if_neg ha]; simp [ha, hb]
theorem RS.put {r : RowD} {P a b : Nat} {Req Req' : Rel2} {T : Nat → Nat → Bool} (h : RS r P Req T) (hs : Sall r a b) (hq : ∀ x y, Req' x y → Req x y ∨ (x = (a : Int) ∧ y = (b : Int))) : RS r P Req' (put2 T a b) := by
 refine ⟨fun x y hx hy ht => ?_, fun x y hx hy hr hne => ?_⟩
 ·rcases put2_iff.1 ht with ht | ⟨hn, ⟨rfl, rfl⟩ | ⟨rfl, rfl⟩⟩
  ·exact h.snd x y hx hy ht
  ·exact ⟨by omega, .inl hs⟩
  ·exact ⟨by omega, .inr hs⟩
 ·rcases hq x y hr with hr | ⟨e1, e2⟩
  ·have := h.req x y hx hy hr hne
   exact ⟨put2_iff.2 (.inl this.1), put2_iff.2 (.inl this.2)⟩
  ·have e1 : x = a := by omega
   have e2 : y = b := by omega
   subst e1
   subst e2
   exact ⟨put2_iff.2 (.inr ⟨hne, .inl ⟨rfl, rfl⟩⟩), put2_iff.2 (.inr ⟨hne, .inr ⟨rfl, rfl⟩⟩)⟩
theorem RS.weak {r : RowD} {P : Nat} {Req Req' : Rel2} {T : Nat → Nat → Bool} (h : RS r P Req T) (hq : ∀ x y, Req' x y → Req x y) : RS r P Req' T := ⟨h.snd, fun x y hx hy hr => h.req x y hx hy (hq _ _ hr)⟩
theorem RS.start (r : RowD) (P : Nat) {Req : Rel2} (hn : ∀ x y, ¬ Req x y) : RS r P Req (fun _ _ => false) := ⟨fun a b _ _ h => (by cases h), fun x y _ _ h => absurd h (hn _ _)⟩
theorem RS.congr {r : RowD} {P : Nat} {Req : Rel2} {T T' : Nat → Nat → Bool} (h : RS r P Req T) (he : ∀ a b, a < P → b < P → T a b = T' a b) : RS r P Req T' :=
 ⟨fun a b ha hb ht => h.snd a b ha hb (by rw [he a b ha hb]; exact ht), fun x y hx hy hr hne => by
  have := h.req x y hx hy hr hne
  rw [← he x y hx hy, ← he y x hy hx]
  exact this⟩
theorem RS.done {e : EnvD} {r : RowD} {P : Nat} {Req : Rel2} {T : Nat → Nat → Bool} (h : RS r P Req T) (hc : CheckP e r) (hq : ∀ x y, Sall r x y → Req x y) {a b : Nat} (ha : a < P) (hb : b < P) : T a b = true ↔ Clashes r a b := by
 refine ⟨h.snd a b ha hb, fun hcl => ?_⟩
 obtain ⟨hne, hs | hs⟩ := hcl
 ·exact (h.req a b ha hb (hq _ _ hs) (by omega)).1
 ·exact (h.req b a hb ha (hq _ _ hs) (by omega)).2
/-- with the one Out o: the first of what is live behind -/
def ReqT (r : RowD) (k : Nat) (c : CodeD) (j : Nat) (o : Int) (t : List Int) (n : Nat) : Rel2 := fun x y => ReqO r k c j x y ∨ (x = o ∧ y ∈ t.take n ∧ (c.op = 272 → ∀ a, c.args[0]? = some a → y ≠ a))
theorem reqT_start {r : RowD} {k j : Nat} {c : CodeD} {o : Int} {t : List Int} (x y : Int) (h : ReqT r k c j o t 0 x y) : ReqO r k c j x y := by
 rcases h with h | ⟨_, h2, _⟩
 ·exact h
 ·simp at h2
theorem reqT_skip {r : RowD} {k j n : Nat} {c : CodeD} {o p : Int} {t : List Int} (ht : t[n]? = some p) (hp : ¬ (c.op = 272 → ∀ a, c.args[0]? = some a → p ≠ a)) (x y : Int) (h : ReqT r k c j o t (n + 1) x y) : ReqT r k c j o t n x y := by
 rcases h with h | ⟨h1, h2, h3⟩
 ·exact .inl h
 ·rcases (take_step ht).1 h2 with h4 | h4
  ·exact .inr ⟨h1, h4, h3⟩
  ·subst h4; exact absurd h3 hp
theorem reqT_put {r : RowD} {k j n : Nat} {c : CodeD} {o p : Int} {t : List Int} (ht : t[n]? = some p) (x y : Int) (h : ReqT r k c j o t (n + 1) x y) : ReqT r k c j o t n x y ∨ (x = o ∧ y = p) := by
 rcases h with h | ⟨h1, h2, h3⟩
 ·exact .inl (.inl h)
 ·rcases (take_step ht).1 h2 with h4 | h4
  ·exact .inl (.inr ⟨h1, h4, h3⟩)
  ·exact .inr ⟨h1, h4⟩
theorem reqT_done {r : RowD} {k j n : Nat} {c : CodeD} {o : Int} {t : List Int} (hn : t.length ≤ n) (ht : ∀ x, x ∈ t ↔ LiveB r k x) (x y : Int) (h : ReqZ r k c j o 0 x y) : ReqT r k c j o t n x y := by
 rcases h with h | ⟨h1, ⟨h2, h3⟩ | h2⟩
 ·exact .inl h
 ·exact .inr ⟨h1, (take_all hn).2 ((ht y).2 h2), h3⟩
 ·simp at h2
def ReqU (r : RowD) (k : Nat) (a : Int) (u : List Int) (n : Nat) : Rel2 := fun x y => ReqP r k x y ∨ (x = a ∧ (y ∈ r.params ∨ y ∈ u.take n))
theorem reqU_start {r : RowD} {k j : Nat} {a : Int} {u : List Int} (hj : r.params.length ≤ j) (x y : Int) (h : ReqU r k a u 0 x y) : ReqQ r k a j x y := by
 rcases h with h | ⟨h1, h2 | h2⟩
 ·exact .inl h
 ·exact .inr ⟨h1, (take_all hj).2 h2⟩
 ·simp at h2
theorem reqU_put {r : RowD} {k n : Nat} {a p : Int} {u : List Int} (hu : u[n]? = some p) (x y : Int) (h : ReqU r k a u (n + 1) x y) : ReqU r k a u n x y ∨ (x = a ∧ y = p) := by
 rcases h with h | ⟨h1, h2 | h2⟩
 ·exact .inl (.inl h)
 ·exact .inl (.inr ⟨h1, .inl h2⟩)
 ·rcases (take_step hu).1 h2 with h3 | h3
  ·exact .inl (.inr ⟨h1, .inr h3⟩)
  ·exact .inr ⟨h1, h3⟩
theorem reqU_done {r : RowD} {k n : Nat} {a : Int} {u : List Int} (hk : r.params[k]? = some a) (hn : u.length ≤ n) (hu : ∀ x, x ∈ u ↔ Live r 0 x) (x y : Int) (h : ReqP r (k + 1) x y) : ReqU r k a u n x y := by
 rcases h with h | ⟨h1, h2⟩
 ·exact .inl (.inl h)
 ·rcases (take_step hk).1 h1 with h3 | h3
  ·exact .inl (.inr ⟨h3, h2⟩)
  ·rcases h2 with h2 | h2
   ·exact .inr ⟨h3, .inl h2⟩
   ·exact .inr ⟨h3, .inr ((take_all hn).2 ((hu y).2 h2))⟩
end Go.Bk.Liv
namespace Go.Bk.Liv
open Go Go.RowKit Go.Bk
set_option linter.unusedVariables false
set_option linter.unusedSimpArgs false
/-- do two rows differ below k -/
def diffs (f g : Nat → Bool) (k : Nat) : Bool := (List.range k).any fun p => f p != g p
theorem diffs_next (f g : Nat → Bool) (k : Nat) : diffs f g (k + 1) = (diffs f g k || (f k != g k)) := by
 unfold diffs
 rw [List.range_succ, List.any_append]
 simp
theorem diffs_no {f g : Nat → Bool} {k : Nat} (h : diffs f g k = false) : ∀ p, p < k → f p = g p := by
 intro p hp
 unfold diffs at h
 rw [List.any_eq_false] at h
 have := h p (List.mem_range.2 hp)
 simpa using this
theorem diffs_yes {f g : Nat → Bool} {k : Nat} (h : diffs f g k = true) : ∃ p, p < k ∧ f p ≠ g p := by
 unfold diffs at h
 rw [List.any_eq_true] at h
 obtain ⟨p, hp, h2⟩ := h
 exact ⟨p, List.mem_range.1 hp, by simpa using h2⟩
/-- a sweep under way, down to the instruction k, in plain words -/
structure TSw (r : RowD) (n P M k : Nat) (b : Bool) (T : Nat → Nat → Bool) : Prop where
 i : TInv r P T
 le : cnt2 n P T ≤ M
 lt : b = true → cnt2 n P T < M
 st : b = false → ∀ j c p, k ≤ j → r.code[j]? = some c → p < P → Fv c j T p = true → T j p = true
theorem TSw.step {r : RowD} {n P M k : Nat} {b : Bool} {T : Nat → Nat → Bool} (h : TSw r n P M (k + 1) b T) (hf : FlowOk r) (hn : r.code.length = n) {c : CodeD} (hc : r.code[k]? = some c) : TSw r n P M k (b || diffs (Fv c k T) (T k) P) (upd T k (Fv c k T)) := by
 have hkn : k < n := by rw [← hn]; exact (List.getElem?_eq_some_iff.1 hc).1
 have hpre := fun p hp => h.i.pre k c p hc hp
 have hle : cnt2 n P (upd T k (Fv c k T)) ≤ cnt2 n P T := cnt2_le hpre
 refine ⟨h.i.step hf hc, Nat.le_trans hle h.le, fun hb => ?_, fun hb => ?_⟩
 ·rcases Bool.or_eq_true_iff.1 hb with hb | hb
  ·exact Nat.lt_of_le_of_lt hle (h.lt hb)
  ·obtain ⟨p, hp, hd⟩ := diffs_yes hb
   exact Nat.lt_of_lt_of_le (cnt2_lt hpre hkn hp hd) h.le
 ·have hb1 : b = false := by cases b <;> simp_all
  have hb2 := diffs_no (show diffs (Fv c k T) (T k) P = false by cases hd : diffs (Fv c k T) (T k) P <;> simp_all)
  have same : ∀ j p, p < P → upd T k (Fv c k T) j p = T j p := by
   intro j p hp
   by_cases e : j = k
   ·subst e; rw [upd_same]; exact hb2 p hp
   ·rw [upd_other e]
  intro j cj p hj hcj hp hF
  rw [Fv_congr hf hcj (T' := T) (fun j _ => same j p hp)] at hF
  rw [same j p hp]
  by_cases e : j = k
  ·subst e
   rw [hc] at hcj
   injection hcj with hcj
   subst hcj
   rw [← hb2 p hp]
   exact hF
  ·exact h.st hb1 j cj p (by omega) hcj hp hF
end Go.Bk.Liv
namespace Go.Proofs.YtgmapikcpnffhaaGreat
open Go.RowKit Go.Bk Go.Bk.Liv
set_option linter.unusedVariables false
set_option linter.unusedSimpArgs false
theorem info_bools : (Tryz.prog.info? 24).map (fun i => (i.zero, i.size, i.bytes)) = some (some (.slice none 0 0), 1, 24) := by kernel_rfl
theorem one_slice (A : Option Addr) (n c : Nat) : ∀ u ∈ [Value.slice A n c], u.oneCell' = true := by
 intro u hu
 obtain rfl := List.mem_singleton.1 hu
 rfl
section
variable {w w' : World} {base n P : Nat} {v : Value} {T : Nat → Nat → Bool} {gs : List Nat}
theorem TM.other {gl : Nat} {f : Nat → Bool} (h : TM w base v n P T gs) (hg : RB 4 w gl P f) (hn : ∀ x ∈ gs, x ≠ gl) (i : Nat) (u : Value) : TM (w.setCell ⟨gl, i, none⟩ u) base v n P T gs :=
 ⟨own_other h.own (own_ne h.own hg (by decide)), h.len, h.nd, fun j x hx => ⟨(h.rows j x hx).1, blk_other (h.rows j x hx).2 (hn x (List.mem_of_getElem? hx))⟩⟩
theorem TM.at2 {gT c : Nat} (h : TM w base (.slice (some ⟨gT, 0, none⟩) n c) n P T gs) (hn : 0 < n) : base ≤ gT ∧ gT < w.heap.size ∧ (∀ i, w.frozen? ⟨gT, i, none⟩ = false) ∧ (∀ i g, gs[i]? = some g → w.cell? ⟨gT, i, none⟩ = some (.slice (some ⟨g, 0, none⟩) P P)) ∧ (∀ g ∈ gs, g ≠ gT) := by
 obtain ⟨gT', c', e, h1, h2, h3, h4, h5⟩ := h.at_ hn
 injection e with e1 e2 e3
 injection e1 with e1
 injection e1 with e1
 subst e1
 exact ⟨h1, h2, h3, h4, h5⟩
theorem TM.lt_ (h : TM w base v n P T gs) : ∀ x ∈ gs, x < w.heap.size := fun x hx => by
 obtain ⟨i, hi⟩ := List.mem_iff_getElem?.1 hx
 exact Blk.lt (h.rows i x hi).2
end
/-- the table's memory -/
structure TaM (w : World) (n P : Nat) (rv : Array Value) (v : Value) (T : Nat → Nat → Bool) (gs : List Nat) (wi : World) : Prop where
 t : TM wi w.heap.size v n P T gs
 r : Blk wi w.heap.size 31 rv
 b : Below w.heap.size w wi
theorem TaM.keep {w : World} {n P : Nat} {rv : Array Value} {v : Value} {T : Nat → Nat → Bool} {gs : List Nat} {wi wj : World} (h : TaM w n P rv v T gs wi) (hb : Below wi.heap.size wi wj) : TaM w n P rv v T gs wj :=
 ⟨h.t.below hb, h.r.below hb h.r.lt, h.b.trans (hb.mono h.b.size)⟩
/-- with a row in work -/
structure TaW (w : World) (n P : Nat) (rv : Array Value) (v : Value) (T : Nat → Nat → Bool) (gs : List Nat) (gl : Nat) (f : Nat → Bool) (wi : World) : Prop where
 m : TaM w n P rv v T gs wi
 l : RB 4 wi gl P f
 lo : w.heap.size < gl
 ne : ∀ x ∈ gs, x ≠ gl
section
variable {w : World} {n P : Nat} {rv : Array Value} {v : Value} {T : Nat → Nat → Bool} {gs : List Nat} {gl : Nat} {f : Nat → Bool} {wi wj : World}
theorem TaW.start (h : TaM w n P rv v T gs wi) (hb : Below wi.heap.size wi wj) (hl : RB 4 wj gl P f) (hg : wi.heap.size ≤ gl) : TaW w n P rv v T gs gl f wj :=
 ⟨h.keep hb, hl, by have := h.r.lt; omega, fun x hx => by have := h.t.lt_ x hx; omega⟩
theorem TaW.set (h : TaW w n P rv v T gs gl f wi) (p : Nat) (b : Bool) : TaW w n P rv v T gs gl (fun q => if q = p then b else f q) (wi.setCell ⟨gl, p, none⟩ (.bool b)) :=
 ⟨⟨h.m.t.other h.l h.ne p _, blk_other h.m.r (by have := h.lo; omega), h.m.b.setCell (p := ⟨gl, p, none⟩) (by have := h.lo; simp; omega) _⟩, h.l.set p b, h.lo, h.ne⟩
theorem TaW.congr {f' : Nat → Bool} (h : TaW w n P rv v T gs gl f wi) (he : ∀ q, q < P → f q = f' q) : TaW w n P rv v T gs gl f' wi := ⟨h.m, h.l.congr he, h.lo, h.ne⟩
theorem TaW.drewN (h : TaW w n P rv v T gs gl f wi) (k : Nat) : TaW w n P rv v T gs gl f (wi.drewN k) := ⟨⟨h.m.t.drewN k, h.m.r.drewN k, below_drewN h.m.b k⟩, h.l, h.lo, h.ne⟩
theorem TaW.done {gT c i : Nat} (h : TaW w n P rv (.slice (some ⟨gT, 0, none⟩) n c) T gs gl f wi) (hn : 0 < n) : TaM w n P rv (.slice (some ⟨gT, 0, none⟩) n c) (upd T i f) (gs.set i gl) (wi.setCell ⟨gT, i, none⟩ (.slice (some ⟨gl, 0, none⟩) P P)) := by
 have h2 := h.m.t.at2 hn
 obtain ⟨cur, hk⟩ := own_blk h.m.t.own (g := gT) rfl
 exact ⟨h.m.t.put h.l (Nat.le_of_lt h.lo) h.ne, blk_other h.m.r (blk_ne h.m.r hk (by decide)), h.m.b.setCell (p := ⟨gT, i, none⟩) h2.1 _⟩
end
def TaPost (r : RowD) (n P : Nat) (w : World) (en : Ending) (w' : World) : Prop := ∃ v gs T, en = .returned v ∧ TM w' w.heap.size v n P T gs ∧ (∀ i p, i < n → p < P → (T i p = true ↔ Live r i p)) ∧ Below w.heap.size w w'
set_option maxRecDepth 100000 in
set_option maxHeartbeats 8000000 in
theorem table_any (e : EnvD) (r : RowD) (vr : Value) (n P : Nat) (w : World) (hr : RowV w vr r) (hc : CheckP e r) (hn : r.code.length = n) (hP : r.places = P) : Calls Tryz.prog 49 #[vr] w (TaPost r n P w) := by
 have hP4 : P ≤ 4096 := by have := hc.p2; omega
 have hn1 : 1 ≤ n := by have := hc.n1; omega
 have hn2 : n ≤ 4096 := by have := hc.n2; omega
 obtain ⟨vp, vq, vs, vd, rfl, h4, h5, h6, h7⟩ := hr
 obtain ⟨Ac, cc, rfl, _⟩ := h7.len
 have H7 := Lib.hid h7
 have HCK := Lib.hid hc
 have HF := Lib.hid hc.flow
 have HR := Lib.hid (show RowV w (.agg #[vp, vq, .int .i64 (P : Int), vs, .slice Ac n cc]) r from ⟨vp, vq, vs, _, by rw [hP, hn], h4, h5, h6, h7⟩)
 rw [hn, hP]
 have HN := Lib.hid hn
 have HP := Lib.hid hP
 have K0 := Lib.hid (Blk.new w 31 #[vp, vq, .int .i64 (P : Int), vs, .slice Ac n cc])
 have mk := run_mk (P := Tryz.prog) 24 4 (.bool false) 1 Tryz.underlying24 info_bool rfl P (by omega) (by omega)
 clear h4 h5 h6 h7 hc hn hP
 go_enter Tryz.func49, Tryz.ntmps49
 go_wp2
 go_loopw [3, 4] (fun v i wi => ∃ (k : Nat) (gs : List Nat), k ≤ n ∧ i = .int .i64 k ∧ Hid (TM wi w.heap.size v k P (fun _ _ => false) gs) ∧ Hid (Blk wi w.heap.size 31 #[vp, vq, .int .i64 (P : Int), vs, .slice Ac n cc]) ∧ Hid (Below w.heap.size w wi)) (fun _ i _ => n - (intOf i).toNat)
 case atStart => exact ⟨0, [], by omega, rfl, Lib.hid (TM.nil _ _ _ _), K0, Lib.hid ((Below.refl _ _).alloc (Nat.le_refl _) _)⟩
 case round =>
  clear K0
  obtain ⟨k, gs, hk, rfl, IT, IK, IB⟩ := hrel
  obtain ⟨Av, cv, hv, _⟩ := own_shape IT.out.own
  subst hv
  obtain ⟨r0, r1, r2, r3, r4⟩ := blk5 IK.out
  have y1 := IK.out.lt
  have hbz := IB.out.size
  by_cases hkn : k < n
  ·have t1 : decide ((k : Int) < n) = true := by simp; omega
   have t2 : (k : Int) < n := by omega
   have IO2 := Lib.hid (own_alloc (own_alloc IT.out.own (.cells (Array.replicate P (.bool false)) 4)) (.cells #[.slice (some ⟨wr.heap.size, 0, none⟩) P P] 24))
   go_wp2_with (at_builtin; refine append_at _ rfl (.tmp 18) (.tmp 22) 91 rfl w.heap.size 24 (.slice none 0 0) 1 24 Tryz.underlying91 info_bools rfl (by omega) (.slice Av k cv) k (rowsV gs P) rfl IO2.out (some ⟨wr.heap.size + 1, 0, none⟩) 1 1 [.slice (some ⟨wr.heap.size, 0, none⟩) P P] rfl (Blk.srcAll (cs := #[.slice (some ⟨wr.heap.size, 0, none⟩) P P]) (Blk.newAt _ _ _ (by simp)) rfl) (one_slice _ _ _) (by unfold maxLen; omega) (by omega) (by simp; omega) ?_)
   rintro v' w' h1 h2 h3 _
   have IT2 := Lib.hid (((IT.out.alloc (.cells (Array.replicate P (.bool false)) 4)).alloc (.cells #[.slice (some ⟨wr.heap.size, 0, none⟩) P P] 24)).push (g := wr.heap.size) (f := fun _ => false) (Blk.alloc (RB.new (t := 4) wr (n := P) false rfl) _) hbz (fun x hx => by have := IT.out.lt_ x hx; omega) h1 h2)
   have IT3 := Lib.hid (IT2.out.congr (T' := fun _ _ => false) (fun i p _ _ => by
    by_cases e : i = k
    ·subst e; rw [upd_same]
    ·rw [upd_other e]))
   have IK2 := Lib.hid (((IK.out.alloc (.cells (Array.replicate P (.bool false)) 4)).alloc (.cells #[.slice (some ⟨wr.heap.size, 0, none⟩) P P] 24)).grown h2 (own_ne IO2.out ((IK.out.alloc (.cells (Array.replicate P (.bool false)) 4)).alloc (.cells #[.slice (some ⟨wr.heap.size, 0, none⟩) P P] 24)) (by decide)))
   have IB2 := Lib.hid (below_grown ((IB.out.alloc hbz (.cells (Array.replicate P (.bool false)) 4)).alloc (by simp; omega) (.cells #[.slice (some ⟨wr.heap.size, 0, none⟩) P P] 24)) h2 (by simp; omega) (fun j hj => (IO2.out.lt j hj).1))
   clear h1 h2 h3 IT IK IB IO2 IT2
   go_wp2
   exact ⟨⟨k + 1, _, by omega, by simp, IT3, IK2, IB2⟩, by simp [intOf]; omega⟩
  ·have t1 : decide ((k : Int) < n) = false := by simp; omega
   have hkn2 : k = n := by omega
   subst hkn2
   clear mk
   obtain ⟨gT, cT, hv, _⟩ := own_at IT.out.own (by omega)
   injection hv with hv1 hv2 hv3
   subst hv1
   subst hv3
   have HM0 := Lib.hid (show TaM w k P #[vp, vq, .int .i64 (P : Int), vs, .slice Ac k cc] (.slice (some ⟨gT, 0, none⟩) k cv) (fun _ _ => false) gs wr from ⟨IT.out, IK.out, IB.out⟩)
   clear IT IK IB hbz
   go_wp2
   clear r0 r1 r2 r3 r4 y1
   go_loopg [5] (cnt2 k P (fun _ _ => false) * 2 + 1) (fun gk v wi => ∃ (b : Bool) (T : Nat → Nat → Bool) (gs : List Nat), v = .bool b ∧ Hid (TaM w k P #[vp, vq, .int .i64 (P : Int), vs, .slice Ac k cc] (.slice (some ⟨gT, 0, none⟩) k cv) T gs wi) ∧ Hid (TInv r P T) ∧ Hid (b = false → ∀ j c p, r.code[j]? = some c → p < P → Fv c j T p = true → T j p = true) ∧ Hid (cnt2 k P T * 2 + (if b then 1 else 0) = gk))
   case atStart => exact ⟨true, _, gs, rfl, HM0, Lib.hid (TInv.start r P), Lib.hid (fun e => by cases e), Lib.hid rfl⟩
   case round =>
    clear HM0
    obtain ⟨b, T, gs, rfl, IM, II, IS, IG⟩ := hrel
    cases b with
    | false =>
     have HD := Lib.hid (II.out.done HCK.out HP.out (IS.out rfl))
     rw [HN.out] at HD
     go_wp2
     go_ret
     exact ⟨_, gs, T, rfl, IM.out.t, HD.out, IM.out.b⟩
    | true =>
     obtain ⟨M, hM⟩ : ∃ M, cnt2 k P T = M := ⟨_, rfl⟩
     have HK := Lib.hid (show M * 2 + 1 = gk by have := IG.out; rw [hM] at this; simpa using this)
     have HS0 := Lib.hid (show TSw r k P M k false T from ⟨II.out, Nat.le_of_eq hM, (fun e => by cases e), fun _ j c p h1 h2 => by
      have h3 := (List.getElem?_eq_some_iff.1 h2).1
      have h4 := HN.out
      omega⟩)
     obtain ⟨r0, r1, r2, r3, r4⟩ := blk5 IM.out.r
     have y1 := IM.out.r.lt
     have z1 : IntKind.i64.wrap ((k : Int) - 1) = (k : Int) - 1 := IntWalk.i64_in _ (by omega)
     clear hM II IS IG r0 r1 r2 r3
     go_wp2_with fail
     clear r4 y1
     go_loopw [5, 6] (fun tv iv wi => ∃ (q : Nat) (x : Int) (b : Bool) (T : Nat → Nat → Bool) (gs : List Nat), q ≤ k ∧ Hid (x = (q : Int) - 1) ∧ iv = .int .i64 x ∧ tv = .bool b ∧ Hid (TaM w k P #[vp, vq, .int .i64 (P : Int), vs, .slice Ac k cc] (.slice (some ⟨gT, 0, none⟩) k cv) T gs wi) ∧ Hid (TSw r k P M q b T)) (fun _ iv _ => (intOf iv + 1).toNat)
     case atStart => exact ⟨k, _, false, T, gs, by omega, Lib.hid rfl, rfl, rfl, IM, HS0⟩
     case round =>
      clear HS0 IM
      obtain ⟨q, x, b, T, gs, hq, HX, rfl, rfl, IM, IS⟩ := hrel
      rcases Nat.eq_zero_or_pos q with rfl | hpos
      ·have hx : x = -1 := by have := HX.out; omega
       subst hx
       clear HX
       go_wp2
       go_roundg (cnt2 k P T * 2 + (if b then 1 else 0))
       case measure =>
        rw [← HK.out]
        have h1 := IS.out.le
        have h2 := IS.out.lt
        cases b with
        | true => have := h2 rfl; simp; omega
        | false => simp; omega
       case rel => exact ⟨b, T, gs, rfl, IM, Lib.hid IS.out.i, Lib.hid (fun e j c p h1 h2 => IS.out.st e j c p (by omega) h1 h2), Lib.hid rfl⟩
      ·as_aux_lemma =>
       obtain ⟨k0, rfl⟩ : ∃ k0, q = k0 + 1 := ⟨q - 1, by omega⟩
       have hx : x = (k0 : Int) := by have := HX.out; omega
       subst hx
       have t2 : decide ((0 : Int) ≤ (k0 : Int)) = true := by simp
       have hk0 : k0 < k := by omega
       have hk02 : (k0 : Int) < k := by omega
       have z2 : IntKind.i64.wrap ((k0 : Int) - 1) = (k0 : Int) - 1 := IntWalk.i64_in _ (by omega)
       obtain ⟨c, hc⟩ : ∃ c, r.code[k0]? = some c := ⟨_, List.getElem?_eq_getElem (by rw [HN.out]; exact hk0)⟩
       have HC := Lib.hid hc
       obtain ⟨r0, r1, r2, r3, r4⟩ := blk5 IM.out.r
       have y1 := IM.out.r.lt
       clear hc HX hpos
       go_wp2_with fail
       (with_reducible refine (behind_any r _ _ k0 k P c T _ (HR.out.below IM.out.b (Nat.le_refl _)) IM.out.t.tb HC.out HN.out HP.out hP4 HF.out).mono ?_)
       rintro en w1 ⟨gl, rfl, hgl, hrb, hb⟩
       have IW := Lib.hid (TaW.start IM.out hb hrb hgl)
       clear hgl hrb hb IM r0 r1 r2 r3 r4 y1
       obtain ⟨gb, go, vp', vq', vt', rfl, hgb, g0, g1, g2, g3, g4, s0, s1, s2, s3⟩ := H7.out.code HC.out
       obtain ⟨pA, pc, rfl⟩ := s1.shape
       obtain ⟨qA, qc, rfl⟩ := s2.shape
       have HAI := Lib.hid s1.ir
       have HOI := Lib.hid s2.ir
       obtain ⟨ma, hma⟩ : ∃ m, c.args.length = m := ⟨_, rfl⟩
       obtain ⟨mo, hmo⟩ : ∃ m, c.outs.length = m := ⟨_, rfl⟩
       have hpl := Lib.hid (codeOk_places (HCK.out.code c (List.mem_of_getElem? HC.out)))
       obtain ⟨_, _, _, _, haL⟩ := s1.len
       obtain ⟨_, _, _, _, hoL⟩ := s2.len
       rw [hma] at HAI g2 haL
       rw [hmo] at HOI g3 hoL
       have HMA := Lib.hid hma
       have HMO := Lib.hid hmo
       have G2 := Lib.hid g2
       have G3 := Lib.hid g3
       clear hma hmo g0 g1 g4 s0 s1 s2 s3 g2 g3
       go_wp2_with fail
       go_loopw [8] (fun i wi => ∃ j : Nat, j ≤ mo ∧ i = .int .i64 j ∧ Hid (TaW w k P #[vp, vq, .int .i64 (P : Int), vs, .slice (some ⟨gb, go, none⟩) k cc] (.slice (some ⟨gT, 0, none⟩) k cv) T gs gl (fun q => bh (nextOf c k0) T q && !decide ((q : Int) ∈ c.outs.take j)) wi)) (fun i _ => mo - (intOf i).toNat)
       case atStart => exact ⟨0, by omega, rfl, Lib.hid (IW.out.congr fun q _ => by simp)⟩
       case round =>
        clear IW
        obtain ⟨j, hj, rfl, IW⟩ := hrel
        obtain ⟨r0, r1, r2, r3, r4⟩ := blk5 IW.out.m.r
        have y1 := IW.out.m.r.lt
        have g3 := (IW.out.m.b.cell (p := ⟨gb, _, none⟩) hgb).trans G3.out
        have y2 : gb < wr.heap.size := by have := IW.out.m.b.size; omega
        by_cases hjo : j < mo
        ·have t3 : decide ((j : Int) < mo) = true := by simp; omega
         have t4 : (j : Int) < mo := by omega
         obtain ⟨x, hx⟩ : ∃ x, c.outs[j]? = some x := ⟨_, List.getElem?_eq_getElem (by rw [HMO.out]; exact hjo)⟩
         have hxr := hpl.out.2.1 x (List.mem_of_getElem? hx)
         rw [HP.out] at hxr
         obtain ⟨z, rfl⟩ : ∃ z : Nat, x = z := ⟨x.toNat, by omega⟩
         have hzP : (z : Int) < P := hxr.2
         obtain ⟨ab, ao, rfl, hab, hcl⟩ := (HOI.out.below IW.out.m.b (Nat.le_refl _)).cell hx
         have y3 := Blk.lt IW.out.l
         have z3 := frz IW.out.l z
         obtain ⟨u3, c3⟩ : ∃ u, wr.cell? ⟨gl, z, none⟩ = some u := ⟨_, IW.out.l.cell (by omega)⟩
         have HW := Lib.hid ((IW.out.set z false).congr (f' := fun q => bh (nextOf c k0) T q && !decide ((q : Int) ∈ c.outs.take (j + 1))) (fun q _ => by
          have hts := take_step (y := (q : Int)) hx
          by_cases e : q = z
          ·subst e
           rw [if_pos rfl, decide_eq_true (hts.2 (.inr rfl))]
           simp
          ·rw [if_neg e]
           have : ((q : Int) ∈ c.outs.take (j + 1)) ↔ ((q : Int) ∈ c.outs.take j) := by
            rw [hts]
            exact ⟨fun h => h.elim id (fun h => absurd (by omega) e), .inl⟩
           rw [decide_eq_decide.2 this]))
         clear IW hx hxr
         go_wp2
         exact ⟨⟨j + 1, by omega, by simp, HW⟩, by simp [intOf]; omega⟩
        ·have t3 : decide ((j : Int) < mo) = false := by simp; omega
         have HW0 := Lib.hid (IW.out.congr (f' := fun q => decide ((q : Int) ∈ c.args.take 0) || (bh (nextOf c k0) T q && !decide ((q : Int) ∈ c.outs))) (fun q _ => by
          rw [List.take_of_length_le (by rw [HMO.out]; omega)]
          simp))
         clear IW
         go_wp2_with fail
         clear r0 r1 r2 r3 r4 y1 g3 y2 t3
         go_loopw [9] (fun i wi => ∃ j : Nat, j ≤ ma ∧ i = .int .i64 j ∧ Hid (TaW w k P #[vp, vq, .int .i64 (P : Int), vs, .slice (some ⟨gb, go, none⟩) k cc] (.slice (some ⟨gT, 0, none⟩) k cv) T gs gl (fun q => decide ((q : Int) ∈ c.args.take j) || (bh (nextOf c k0) T q && !decide ((q : Int) ∈ c.outs))) wi)) (fun i _ => ma - (intOf i).toNat)
         case atStart => exact ⟨0, by omega, rfl, HW0⟩
         case round =>
          clear HW0
          obtain ⟨j, hj, rfl, IW⟩ := hrel
          obtain ⟨r0, r1, r2, r3, r4⟩ := blk5 IW.out.m.r
          have y1 := IW.out.m.r.lt
          have g2 := (IW.out.m.b.cell (p := ⟨gb, _, none⟩) hgb).trans G2.out
          have y2 : gb < wr.heap.size := by have := IW.out.m.b.size; omega
          by_cases hja : j < ma
          ·have t3 : decide ((j : Int) < ma) = true := by simp; omega
           have t4 : (j : Int) < ma := by omega
           obtain ⟨x, hx⟩ : ∃ x, c.args[j]? = some x := ⟨_, List.getElem?_eq_getElem (by rw [HMA.out]; exact hja)⟩
           have hxr := hpl.out.1 x (List.mem_of_getElem? hx)
           rw [HP.out] at hxr
           obtain ⟨z, rfl⟩ : ∃ z : Nat, x = z := ⟨x.toNat, by omega⟩
           have hzP : (z : Int) < P := hxr.2
           obtain ⟨ab, ao, rfl, hab, hcl⟩ := (HAI.out.below IW.out.m.b (Nat.le_refl _)).cell hx
           have y3 := Blk.lt IW.out.l
           have z3 := frz IW.out.l z
           obtain ⟨u3, c3⟩ : ∃ u, wr.cell? ⟨gl, z, none⟩ = some u := ⟨_, IW.out.l.cell (by omega)⟩
           have HW := Lib.hid ((IW.out.set z true).congr (f' := fun q => decide ((q : Int) ∈ c.args.take (j + 1)) || (bh (nextOf c k0) T q && !decide ((q : Int) ∈ c.outs))) (fun q _ => by
            have hts := take_step (y := (q : Int)) hx
            by_cases e : q = z
            ·subst e
             rw [if_pos rfl, decide_eq_true (hts.2 (.inr rfl))]
             simp
            ·rw [if_neg e]
             have : ((q : Int) ∈ c.args.take (j + 1)) ↔ ((q : Int) ∈ c.args.take j) := by
              rw [hts]
              exact ⟨fun h => h.elim id (fun h => absurd (by omega) e), .inl⟩
             rw [decide_eq_decide.2 this]))
           clear IW hx hxr
           go_wp2
           exact ⟨⟨j + 1, by omega, by simp, HW⟩, by simp [intOf]; omega⟩
          ·have t3 : decide ((j : Int) < ma) = false := by simp; omega
           have HW0 := Lib.hid (IW.out.congr (f' := Fv c k0 T) (fun q _ => by
            rw [List.take_of_length_le (by rw [HMA.out]; omega)]
            rfl))
           clear IW
           go_wp2_with fail
           clear r0 r1 r2 r3 r4 y1 g2 y2 t3
           go_loopw [5, 10] (fun tv i wi => ∃ j : Nat, j ≤ P ∧ i = .int .i64 j ∧ tv = .bool (b || diffs (Fv c k0 T) (T k0) j) ∧ Hid (TaW w k P #[vp, vq, .int .i64 (P : Int), vs, .slice (some ⟨gb, go, none⟩) k cc] (.slice (some ⟨gT, 0, none⟩) k cv) T gs gl (Fv c k0 T) wi)) (fun _ i _ => P - (intOf i).toNat)
           case atStart => exact ⟨0, by omega, rfl, by simp [diffs], HW0⟩
           case round =>
            clear HW0
            obtain ⟨j, hj, rfl, rfl, IW⟩ := hrel
            obtain ⟨r0, r1, r2, r3, r4⟩ := blk5 IW.out.m.r
            have y1 := IW.out.m.r.lt
            by_cases hjP : j < P
            ·have t3 : decide ((j : Int) < P) = true := by simp; omega
             have t4 : (j : Int) < P := by omega
             obtain ⟨gk, hgk⟩ : ∃ gk, gs[k0]? = some gk := ⟨_, List.getElem?_eq_getElem (by rw [IW.out.m.t.len]; exact hk0)⟩
             have h2 := IW.out.m.t.at2 (by omega)
             have a1 := h2.2.2.2.1 k0 gk hgk
             have a2 := h2.2.1
             have a3 := (IW.out.m.t.rows k0 gk hgk).2.cell hjP
             have a4 := Blk.lt (IW.out.m.t.rows k0 gk hgk).2
             have a5 := IW.out.l.cell hjP
             have a6 := Blk.lt IW.out.l
             have HDN := Lib.hid (diffs_next (Fv c k0 T) (T k0) j)
             obtain ⟨u, hu⟩ : ∃ u, Fv c k0 T j = u := ⟨_, rfl⟩
             obtain ⟨t, ht⟩ : ∃ t, T k0 j = t := ⟨_, rfl⟩
             obtain ⟨bd, hbd⟩ : ∃ bd, (b || diffs (Fv c k0 T) (T k0) j) = bd := ⟨_, rfl⟩
             rw [hu] at a5 HDN
             rw [ht] at a3 HDN
             rw [hbd]
             have HBD := Lib.hid hbd
             clear hgk h2 hu ht hbd
             cases u <;> cases t
             all_goals
              go_wp2_with fail
              go_quiet (fail)
              go_wp2
              exact ⟨⟨j + 1, by omega, by simp, by first | (rw [HDN.out, ← HBD.out]; simp; done) | (rw [HDN.out]; simp), Lib.hid (IW.out.drewN _)⟩, by simp [intOf]; omega⟩
            ·have t3 : decide ((j : Int) < P) = false := by simp; omega
             have hjP2 : j = P := by omega
             subst hjP2
             have h2 := IW.out.m.t.at2 (by omega)
             have a2 := h2.2.1
             have a3 := h2.2.2.1 k0
             obtain ⟨gk, hgk⟩ : ∃ gk, gs[k0]? = some gk := ⟨_, List.getElem?_eq_getElem (by rw [IW.out.m.t.len]; exact hk0)⟩
             have a1 := h2.2.2.2.1 k0 gk hgk
             have HW := Lib.hid (IW.out.done (i := k0) (by omega))
             have HS := Lib.hid (IS.out.step HF.out HN.out HC.out)
             obtain ⟨bd, hbd⟩ : ∃ bd, (b || diffs (Fv c k0 T) (T k0) j) = bd := ⟨_, rfl⟩
             rw [hbd] at HS ⊢
             clear IW IS h2 hbd hgk
             go_wp2
             exact ⟨⟨k0, _, bd, _, _, by omega, Lib.hid rfl, rfl, rfl, HW, HS⟩, by first | (simp [intOf]; done) | (simp [intOf]; omega)⟩
end Go.Proofs.YtgmapikcpnffhaaGreat
namespace Go.Bk.Liv
open Go Go.RowKit Go.Bk
set_option linter.unusedVariables false
set_option linter.unusedSimpArgs false
theorem row_live {e : EnvD} {r : RowD} {P : Nat} {f : Nat → Bool} {Q : Int → Prop} {p : List Int} (h : IsSet p (fun x => ∃ i : Nat, x = i ∧ i < P ∧ f i = true)) (hf : ∀ q : Nat, q < P → (f q = true ↔ Q q)) (hr : ∀ x, Q x → 0 ≤ x ∧ x < (P : Int)) : IsSet p Q :=
 h.imp fun x => ⟨fun ⟨i, e, hi, h⟩ => by subst e; exact (hf i hi).1 h, fun hq => by
  have := hr x hq
  obtain ⟨i, rfl⟩ : ∃ i : Nat, x = i := ⟨x.toNat, by omega⟩
  exact ⟨i, rfl, by omega, (hf i (by omega)).2 hq⟩⟩
end Go.Bk.Liv
namespace Go.Proofs.YtgmapikcpnffhaaGreat
open Go.RowKit Go.Bk Go.Bk.Liv
set_option linter.unusedVariables false
set_option linter.unusedSimpArgs false
/-- lists of one's own so far, as Told says of them -/
def TolS (w2 : World) (v : Value) (k : Nat) (Q : Nat → Int → Prop) (wr : World) : Prop := ∃ vs PP, wr.ownsRow w2.heap.size 23 1 v k vs ∧ RowsOf wr w2.heap.size vs PP ∧ PP.length = k ∧ (∀ (i : Nat) p, PP[i]? = some p → IsSet p (Q i)) ∧ Below w2.heap.size w2 wr
theorem TolS.start (w2 : World) (Q : Nat → Int → Prop) : TolS w2 (.slice none 0 0) 0 Q w2 := ⟨[], [], World.ownsRow_nil _ _ _ _, ⟨rfl, fun i u p h => by simp at h⟩, rfl, fun i p h => by simp at h, Below.refl _ _⟩
theorem TolS.told {w2 wr : World} {v : Value} {k : Nat} {Q : Nat → Int → Prop} (h : TolS w2 v k Q wr) : Told wr w2.heap.size v k Q := by
 obtain ⟨vs, PP, h1, h2, h3, h4, _⟩ := h
 exact ⟨vs, PP, h1, h2, h3, h4⟩
theorem TolS.below {w2 wr : World} {v : Value} {k : Nat} {Q : Nat → Int → Prop} (h : TolS w2 v k Q wr) : Below w2.heap.size w2 wr := by
 obtain ⟨vs, PP, h1, h2, h3, h4, h5⟩ := h
 exact h5
theorem TolS.keep {w2 wr wr' : World} {v : Value} {k : Nat} {Q : Nat → Int → Prop} (h : TolS w2 v k Q wr) (hb : Below wr.heap.size wr wr') : TolS w2 v k Q wr' := by
 obtain ⟨vs, PP, h1, h2, h3, h4, h5⟩ := h
 exact ⟨vs, PP, own_below h1 hb (Nat.le_refl _), h2.grown (below_grownBy hb) (fun _ _ _ => by simp), h3, h4, h5.trans (hb.mono h5.size)⟩
theorem TolS.shape {w2 wr : World} {v : Value} {k : Nat} {Q : Nat → Int → Prop} (h : TolS w2 v k Q wr) : ∃ A c, v = .slice A k c := by
 obtain ⟨vs, PP, h1, _⟩ := h
 obtain ⟨A, c, e, _⟩ := own_shape h1
 exact ⟨A, c, e⟩
/-- the next list is laid behind them -/
theorem TolS.open {w2 wr : World} {v : Value} {k : Nat} {Q : Nat → Int → Prop} (h : TolS w2 v k Q wr) : ∃ vs PP, wr.ownsRow w2.heap.size 23 1 v k vs ∧ RowsOf wr w2.heap.size vs PP ∧ PP.length = k ∧ (∀ (i : Nat) p, PP[i]? = some p → IsSet p (Q i)) ∧ Below w2.heap.size w2 wr := h
theorem TolS.push2 {w2 wr wr' : World} {v v' u : Value} {k : Nat} {Q : Nat → Int → Prop} {p : List Int} {vs : List Value} {PP : List (List Int)} (h1 : wr.ownsRow w2.heap.size 23 1 v k vs) (h : RowsOf wr w2.heap.size vs PP ∧ PP.length = k ∧ (∀ (i : Nat) p, PP[i]? = some p → IsSet p (Q i)) ∧ Below w2.heap.size w2 wr)
  (hu : wr.ownsRow w2.heap.size 3 1 u p.length (i64s p)) (hp : IsSet p (Q k)) (ho : wr'.ownsRow w2.heap.size 23 1 v' (k + 1) (vs ++ [u])) (hg : wr.grownBy wr' v.ownBlock) : TolS w2 v' (k + 1) Q wr' := by
 obtain ⟨h2, h3, h4, h5⟩ := h
 have hr : ∀ g cs, Blk wr g 3 cs → v.ownBlock ≠ some g := fun g cs hb => own_ne h1 hb (by decide)
 refine ⟨vs ++ [u], PP ++ [p], ho, (h2.grown hg hr).push (own_grown hu hg (fun g hgg => by
   obtain ⟨cur, hb⟩ := own_blk hu hgg
   exact hr g cur hb)), by simp [h3], fun i q hq => ?_, below_grown h5 hg h5.size (fun j hj => (h1.lt j hj).1)⟩
 by_cases hi : i < PP.length
 ·rw [List.getElem?_append_left hi] at hq
  exact h4 i q hq
 ·rw [List.getElem?_append_right (by omega)] at hq
  have h0 : i - PP.length = 0 := by
   have := (List.getElem?_eq_some_iff.1 hq).1
   simp at this
   omega
  rw [h0] at hq
  simp at hq
  subst hq
  have : i = k := by omega
  rw [this]
  exact hp
set_option maxRecDepth 100000 in
set_option maxHeartbeats 8000000 in
theorem rAhead_any (e : EnvD) (r : RowD) (ve vr : Value) (w : World) (he : EnvV w ve e) (hr : RowV w vr r) : Calls Tryz.prog 81 #[ve, vr] w (AhPost e r r.code.length (Live r) w) := by
 have HE := Lib.hid he
 have HR := Lib.hid hr
 obtain ⟨va, vb, vd, rfl, h1, h2, h3⟩ := he
 obtain ⟨vp, vq, vr, vs, rfl, h4, h5, h6, h7⟩ := hr
 clear h1 h2 h3 h4 h5 h6 h7
 have HB0 := Lib.hid (al2 w (.cells #[va, .int .i64 e.imports, vb, vd, .bool e.mem] 26) (.cells #[vp, vq, .int .i64 r.places, vr, vs] 31))
 have KR0 := Lib.hid (Blk.newAt (w.alloc (.cells #[va, .int .i64 e.imports, vb, vd, .bool e.mem] 26)) (N := w.heap.size + 1) 31 #[vp, vq, .int .i64 r.places, vr, vs] (by simp))
 obtain ⟨n, hn⟩ : ∃ n, r.code.length = n := ⟨_, rfl⟩
 rw [hn]
 have HN := Lib.hid hn
 clear hn
 go_enter Tryz.func81, Tryz.ntmps81
 go_wp2_with fail
 (with_reducible refine (rcheck_any e r _ _ _ (HE.out.below HB0.out (Nat.le_refl _)) (HR.out.below HB0.out (Nat.le_refl _))).mono ?_)
 rintro en w1 ⟨b, rfl, hbc, hb1⟩
 have HB1 := Lib.hid (HB0.out.trans (hb1.mono HB0.out.size))
 have HBC := Lib.hid hbc
 have KR1 := Lib.hid (KR0.out.below hb1 KR0.out.lt)
 clear hb1 hbc
 cases b with
 | false =>
  go_wp2
  go_ret2
  exact .inl ⟨(fun h => by have := HBC.out.2 h; cases this), rfl, HB1.out⟩
 | true =>
  have HC := Lib.hid (HBC.out.1 rfl)
  obtain ⟨P, hP⟩ : ∃ P : Nat, r.places = P := ⟨r.places.toNat, by have := HC.out.p1; omega⟩
  have hP4 : P ≤ 4096 := by have := HC.out.p2; omega
  have hn4 : n ≤ 4096 := by have := HC.out.n2; have := HN.out; omega
  have hn1 : 0 < n := by have := HC.out.n1; have := HN.out; omega
  have HP := Lib.hid hP
  obtain ⟨r0, r1, r2, r3, r4⟩ := blk5 KR1.out
  have y1 := KR1.out.lt
  clear hP
  go_wp2_with fail
  (with_reducible refine (table_any e r _ n P _ (HR.out.below HB1.out (Nat.le_refl _)) HC.out HN.out HP.out).mono ?_)
  rintro en w2 ⟨vt, gs, T, rfl, hT, hL, hb2⟩
  have HB2 := Lib.hid (HB1.out.trans (hb2.mono HB1.out.size))
  have HT := Lib.hid hT
  have HL := Lib.hid hL
  have KR2 := Lib.hid (KR1.out.below hb2 KR1.out.lt)
  obtain ⟨At, ct, rfl⟩ := hT.shape
  have HS0 := Lib.hid (TolS.start w2 (Live r))
  clear hT hL hb2 r0 r1 r2 r3 r4 y1
  go_wp2
  go_loopw [7, 8] (fun v i wr => ∃ k : Nat, k ≤ n ∧ i = .int .i64 k ∧ Hid (TolS w2 v k (Live r) wr)) (fun _ i _ => n - (intOf i).toNat)
  case atStart => exact ⟨0, by omega, rfl, HS0⟩
  case round =>
   clear HS0
   obtain ⟨k, hk, rfl, IS⟩ := hrel
   obtain ⟨Av, cv, hv⟩ := IS.out.shape
   subst hv
   by_cases hkn : k < n
   ·have t1 : decide ((k : Int) < n) = true := by simp; omega
    have t2 : (k : Int) < n := by omega
    obtain ⟨b, o, C, kC, rfl, hb, hc, hs⟩ := (HT.out.below IS.out.below).tb.row hkn
    have HS := Lib.hid hs
    clear hs
    go_wp2_with fail
    (with_reducible refine (list_any _ P _ (T k) _ HS.out hP4).mono ?_)
    rintro en w3 ⟨u, p, rfl, ho, hpl, hset, hb3⟩
    have HST := Lib.hid (show IsSet p (Live r k) from row_live (e := e) (r := r) hset (fun q hq => HL.out k q hkn hq) (fun x hx => by have := hx.range HC.out; rw [HP.out] at this; exact this))
    have IS1 := Lib.hid (IS.out.keep hb3)
    have HO := Lib.hid (own_mono ho IS.out.below.size)
    obtain ⟨q, hq⟩ : ∃ q, p.length = q := ⟨_, rfl⟩
    obtain ⟨A1, c1, e1, _⟩ := own_shape ho
    subst e1
    rw [hq] at ho HO hpl ⊢
    have HQ := Lib.hid hq
    have HO2 := Lib.hid (own_alloc HO.out (.cells #[.slice A1 q c1] 23))
    have IS2 := Lib.hid (IS1.out.keep ((Below.refl _ _).alloc (Nat.le_refl _) (.cells #[.slice A1 q c1] 23)))
    have hz := IS1.out.below.size
    obtain ⟨vs, PP, hvs, hPP⟩ := IS2.out.open
    have HVS := Lib.hid hvs
    have HPP := Lib.hid hPP
    clear ho hset hb3 hq hvs hPP IS2 IS1
    go_wp2_with (at_builtin; refine append_at _ rfl (.tmp 21) (.tmp 27) 43 rfl w2.heap.size 23 (.slice none 0 0) 1 24 Tryz.underlying43 info_ints rfl (by omega) (.slice Av k cv) k vs rfl HVS.out (some ⟨w3.heap.size, 0, none⟩) 1 1 [.slice A1 q c1] rfl (Blk.srcAll (cs := #[.slice A1 q c1]) (Blk.newAt _ _ _ rfl) rfl) (one_slice _ _ _) (by unfold maxLen; omega) (by omega) (by simp; omega) ?_)
    rintro v' w' g1 g2 g3 _
    have IS3 := Lib.hid (TolS.push2 (u := .slice A1 q c1) (p := p) HVS.out HPP.out (by rw [HQ.out]; exact HO2.out) HST.out g1 g2)
    clear g1 g2 g3
    go_wp2
    exact ⟨⟨k + 1, by omega, by simp, IS3⟩, by simp [intOf]; omega⟩
   ·have t1 : decide ((k : Int) < n) = false := by simp; omega
    have hkn2 : k = n := by omega
    subst hkn2
    go_wp2
    go_ret2
    exact .inr ⟨HC.out, _, rfl, IS.out.told.mono HB2.out.size, HB2.out.trans (IS.out.below.mono HB2.out.size)⟩
set_option maxRecDepth 100000 in
set_option maxHeartbeats 8000000 in
theorem rBehind_any (e : EnvD) (r : RowD) (ve vr : Value) (w : World) (he : EnvV w ve e) (hr : RowV w vr r) : Calls Tryz.prog 18 #[ve, vr] w (AhPost e r r.code.length (LiveB r) w) := by
 have HE := Lib.hid he
 have HR := Lib.hid hr
 obtain ⟨va, vb, vd, rfl, h1, h2, h3⟩ := he
 obtain ⟨vp, vq, vr, vs, rfl, h4, h5, h6, h7⟩ := hr
 clear h1 h2 h3 h4 h5 h6 h7
 have HB0 := Lib.hid (al2 w (.cells #[va, .int .i64 e.imports, vb, vd, .bool e.mem] 26) (.cells #[vp, vq, .int .i64 r.places, vr, vs] 31))
 have KR0 := Lib.hid (Blk.newAt (w.alloc (.cells #[va, .int .i64 e.imports, vb, vd, .bool e.mem] 26)) (N := w.heap.size + 1) 31 #[vp, vq, .int .i64 r.places, vr, vs] (by simp))
 obtain ⟨n, hn⟩ : ∃ n, r.code.length = n := ⟨_, rfl⟩
 rw [hn]
 have HN := Lib.hid hn
 clear hn
 go_enter Tryz.func18, Tryz.ntmps18
 go_wp2_with fail
 (with_reducible refine (rcheck_any e r _ _ _ (HE.out.below HB0.out (Nat.le_refl _)) (HR.out.below HB0.out (Nat.le_refl _))).mono ?_)
 rintro en w1 ⟨b, rfl, hbc, hb1⟩
 have HB1 := Lib.hid (HB0.out.trans (hb1.mono HB0.out.size))
 have HBC := Lib.hid hbc
 have KR1 := Lib.hid (KR0.out.below hb1 KR0.out.lt)
 clear hb1 hbc
 cases b with
 | false =>
  go_wp2
  go_ret2
  exact .inl ⟨(fun h => by have := HBC.out.2 h; cases this), rfl, HB1.out⟩
 | true =>
  have HC := Lib.hid (HBC.out.1 rfl)
  obtain ⟨P, hP⟩ : ∃ P : Nat, r.places = P := ⟨r.places.toNat, by have := HC.out.p1; omega⟩
  have hP4 : P ≤ 4096 := by have := HC.out.p2; omega
  have hn4 : n ≤ 4096 := by have := HC.out.n2; have := HN.out; omega
  have hn1 : 0 < n := by have := HC.out.n1; have := HN.out; omega
  have HP := Lib.hid hP
  obtain ⟨r0, r1, r2, r3, r4⟩ := blk5 KR1.out
  have y1 := KR1.out.lt
  clear hP
  go_wp2_with fail
  (with_reducible refine (table_any e r _ n P _ (HR.out.below HB1.out (Nat.le_refl _)) HC.out HN.out HP.out).mono ?_)
  rintro en w2 ⟨vt, gs, T, rfl, hT, hL, hb2⟩
  have HB2 := Lib.hid (HB1.out.trans (hb2.mono HB1.out.size))
  have HT := Lib.hid hT
  have HL := Lib.hid hL
  have KR2 := Lib.hid (KR1.out.below hb2 KR1.out.lt)
  obtain ⟨At, ct, rfl⟩ := hT.shape
  have HS0 := Lib.hid (TolS.start w2 (LiveB r))
  clear hT hL hb2 r0 r1 r2 r3 r4 y1
  go_wp2
  go_loopw [7, 8] (fun v i wr => ∃ k : Nat, k ≤ n ∧ i = .int .i64 k ∧ Hid (TolS w2 v k (LiveB r) wr)) (fun _ i _ => n - (intOf i).toNat)
  case atStart => exact ⟨0, by omega, rfl, HS0⟩
  case round =>
   clear HS0
   obtain ⟨k, hk, rfl, IS⟩ := hrel
   obtain ⟨Av, cv, hv⟩ := IS.out.shape
   subst hv
   by_cases hkn : k < n
   ·have t1 : decide ((k : Int) < n) = true := by simp; omega
    have t2 : (k : Int) < n := by omega
    obtain ⟨c, hc⟩ : ∃ c, r.code[k]? = some c := ⟨_, List.getElem?_eq_getElem (by rw [HN.out]; exact hkn)⟩
    have HCK := Lib.hid hc
    clear hc
    obtain ⟨r0, r1, r2, r3, r4⟩ := blk5 (KR2.out.below IS.out.below KR2.out.lt)
    have y1 := (KR2.out.below IS.out.below KR2.out.lt).lt
    have HBr := Lib.hid (HB2.out.trans (IS.out.below.mono HB2.out.size))
    go_wp2_with fail
    (with_reducible refine (behind_any r _ _ k n P c T _ (HR.out.below HBr.out (Nat.le_refl _)) (HT.out.below IS.out.below).tb HCK.out HN.out HP.out hP4 HC.out.flow).mono ?_)
    rintro en w4 ⟨gl, rfl, hgl, hrb, hb4⟩
    have IS0 := Lib.hid (IS.out.keep hb4)
    have HRB := Lib.hid hrb.src
    clear hgl hrb hb4 IS r0 r1 r2 r3 r4 y1
    go_wp2_with fail
    (with_reducible refine (list_any _ P _ (bh (nextOf c k) T) _ HRB.out hP4).mono ?_)
    rintro en w3 ⟨u, p, rfl, ho, hpl, hset, hb3⟩
    have HST := Lib.hid (show IsSet p (LiveB r k) from row_live (e := e) (r := r) hset (fun q hq => bh_live HC.out (by rw [HN.out]; exact HL.out) HCK.out hq) (fun x hx => by have := hx.range HC.out; rw [HP.out] at this; exact this))
    have IS1 := Lib.hid (IS0.out.keep hb3)
    have HO := Lib.hid (own_mono ho IS0.out.below.size)
    obtain ⟨q, hq⟩ : ∃ q, p.length = q := ⟨_, rfl⟩
    obtain ⟨A1, c1, e1, _⟩ := own_shape ho
    subst e1
    rw [hq] at ho HO hpl ⊢
    have HQ := Lib.hid hq
    have HO2 := Lib.hid (own_alloc HO.out (.cells #[.slice A1 q c1] 23))
    have IS2 := Lib.hid (IS1.out.keep ((Below.refl _ _).alloc (Nat.le_refl _) (.cells #[.slice A1 q c1] 23)))
    have hz := IS1.out.below.size
    obtain ⟨vs, PP, hvs, hPP⟩ := IS2.out.open
    have HVS := Lib.hid hvs
    have HPP := Lib.hid hPP
    clear ho hset hb3 hq hvs hPP IS2 IS1
    go_wp2_with (at_builtin; refine append_at _ rfl (.tmp 21) (.tmp 27) 43 rfl w2.heap.size 23 (.slice none 0 0) 1 24 Tryz.underlying43 info_ints rfl (by omega) (.slice Av k cv) k vs rfl HVS.out (some ⟨w3.heap.size, 0, none⟩) 1 1 [.slice A1 q c1] rfl (Blk.srcAll (cs := #[.slice A1 q c1]) (Blk.newAt _ _ _ rfl) rfl) (one_slice _ _ _) (by unfold maxLen; omega) (by omega) (by simp; omega) ?_)
    rintro v' w' g1 g2 g3 _
    have IS3 := Lib.hid (TolS.push2 (u := .slice A1 q c1) (p := p) HVS.out HPP.out (by rw [HQ.out]; exact HO2.out) HST.out g1 g2)
    clear g1 g2 g3
    go_wp2
    exact ⟨⟨k + 1, by omega, by simp, IS3⟩, by simp [intOf]; omega⟩
   ·have t1 : decide ((k : Int) < n) = false := by simp; omega
    have hkn2 : k = n := by omega
    subst hkn2
    go_wp2
    go_ret2
    exact .inr ⟨HC.out, _, rfl, IS.out.told.mono HB2.out.size, HB2.out.trans (IS.out.below.mono HB2.out.size)⟩
end Go.Proofs.YtgmapikcpnffhaaGreat
namespace Go.Bk.Liv
open Go Go.RowKit Go.Bk
set_option linter.unusedVariables false
set_option linter.unusedSimpArgs false
theorem own_kept {S : List Nat} {w w' : World} {base n size : Nat} {e : TypeId} {v : Value} {xs : List Value} (h : w.ownsRow base e size v n xs) (hk : KeptBut S w w') (hS : ∀ g, v.ownBlock = some g → g ∉ S) : w'.ownsRow base e size v n xs := by
 refine ⟨h.1, ?_⟩
 rcases h.2 with h2 | ⟨g, cap, cur, rfl, h2, hh, r⟩
 ·exact .inl h2
 ·exact .inr ⟨g, cap, cur, rfl, h2, blk_kept (show Blk w g e cur from hh) hk (hS g rfl), r⟩
theorem KeptBut.drewN (S : List Nat) (w : World) (n : Nat) : KeptBut S w (w.drewN n) := ⟨Nat.le_refl _, fun _ _ _ => rfl⟩
end Go.Bk.Liv
namespace Go.Proofs.YtgmapikcpnffhaaGreat
open Go.RowKit Go.Bk Go.Bk.Liv
set_option linter.unusedVariables false
set_option linter.unusedSimpArgs false
theorem kept_setCell {S : List Nat} {w : World} {g i : Nat} (u : Value) (hg : g ∈ S) : KeptBut S w (w.setCell ⟨g, i, none⟩ u) := KeptBut.grown (grown_setCell w g i u) hg
theorem Told.kept {S : List Nat} {w w' : World} {base n : Nat} {v : Value} {Q : Nat → Int → Prop} (h : Told w base v n Q) (hk : KeptBut S w w') (hS : ∀ g ∈ S, ∃ cs, Blk w g 4 cs) : Told w' base v n Q := by
 obtain ⟨vs, P, h1, h2, h3, h4⟩ := h
 have no : ∀ {e : TypeId} {base n : Nat} {v : Value} {xs : List Value}, w.ownsRow base e 1 v n xs → e ≠ 4 → ∀ g, v.ownBlock = some g → g ∉ S := by
  intro e base n v xs ho he g hg hin
  obtain ⟨cs, hb⟩ := hS g hin
  exact own_ne ho hb he hg
 exact ⟨vs, P, own_kept h1 hk (no h1 (by decide)), ⟨h2.1, fun i u p q1 q2 => own_kept (h2.2 i u p q1 q2) hk (no (h2.2 i u p q1 q2) (by decide))⟩, h3, h4⟩
/-- the first of told lists, in memory -/
theorem Told.first {w : World} {base n : Nat} {A : Option Addr} {c i : Nat} {Q : Nat → Int → Prop} {p : List Int} (h : Told w base (.slice A n c) n Q) (hn : i < n) (hp : IsSet p (Q i)) : ∃ b o B k, A = some ⟨b, o, none⟩ ∧ b < w.heap.size ∧ w.cell? ⟨b, o + i, none⟩ = some (.slice B p.length k) ∧ IR w (.slice B p.length k) p := by
 obtain ⟨P, hl, hlen, hs⟩ := h.lists
 obtain ⟨q, hq⟩ : ∃ q, P[i]? = some q := ⟨_, List.getElem?_eq_getElem (by omega)⟩
 have e := IsSet.one (hs i q hq) hp
 subst e
 exact hl.at hq
theorem Told.get {w : World} {base n i : Nat} {v : Value} {Q : Nat → Int → Prop} (h : Told w base v n Q) (hn : i < n) : ∃ p, IsSet p (Q i) := by
 obtain ⟨P, hl, hlen, hs⟩ := h.lists
 exact ⟨_, hs i _ (List.getElem?_eq_getElem (by omega))⟩
theorem Told.shape {w : World} {base n : Nat} {v : Value} {Q : Nat → Int → Prop} (h : Told w base v n Q) : ∃ A c, v = .slice A n c := by
 obtain ⟨vs, P, h1, _⟩ := h
 obtain ⟨A, c, e, _⟩ := own_shape h1
 exact ⟨A, c, e⟩
/-- the table of clashes -/
structure KM (w1 w : World) (gC : Nat) (v : Value) (n P : Nat) (T : Nat → Nat → Bool) (gs : List Nat) : Prop where
 t : TM w w1.heap.size v n P T gs
 c : Blk w gC 130 #[v]
 lo : w1.heap.size ≤ gC
 b : Below w1.heap.size w1 w
section
variable {w1 w w' : World} {gC n P : Nat} {v : Value} {T : Nat → Nat → Bool} {gs : List Nat}
theorem KM.keep (h : KM w1 w gC v n P T gs) (hb : Below w.heap.size w w') : KM w1 w' gC v n P T gs := ⟨h.t.below hb, h.c.below hb h.c.lt, h.lo, h.b.trans (hb.mono h.b.size)⟩
theorem KM.alloc (h : KM w1 w gC v n P T gs) (o : Obj) : KM w1 (w.alloc o) gC v n P T gs := h.keep ((Below.refl _ _).alloc (Nat.le_refl _) _)
theorem KM.drewN (h : KM w1 w gC v n P T gs) (k : Nat) : KM w1 (w.drewN k) gC v n P T gs := ⟨h.t.drewN k, h.c, h.lo, below_drewN h.b k⟩
theorem KM.congr {T' : Nat → Nat → Bool} (h : KM w1 w gC v n P T gs) (he : ∀ i p, i < n → p < P → T i p = T' i p) : KM w1 w gC v n P T' gs := ⟨h.t.congr he, h.c, h.lo, h.b⟩
theorem KM.bools (h : KM w1 w gC v n P T gs) : ∀ g ∈ gs, ∃ cs, Blk w g 4 cs := fun g hg => by
 obtain ⟨i, hi⟩ := List.mem_iff_getElem?.1 hg
 exact ⟨_, (h.t.rows i g hi).2⟩
theorem KM.set {i g p : Nat} {b : Bool} (h : KM w1 w gC v n P T gs) (hg : gs[i]? = some g) : KM w1 (w.setCell ⟨g, p, none⟩ (.bool b)) gC v n P (upd T i (fun q => if q = p then b else T i q)) gs := by
 have hr := h.t.rows i g hg
 refine ⟨h.t.setAt hg, blk_other h.c (fun e => ?_), h.lo, h.b.setCell (p := ⟨g, p, none⟩) hr.1 _⟩
 have hk := h.c
 rw [e] at hk
 exact absurd (blk_ne hk (show Blk w g 4 _ from hr.2) (by decide)) (fun h => h rfl)
end
/-- with what it holds -/
def RK (r : RowD) (P : Nat) (Req : Rel2) (w1 : World) (gC : Nat) (v : Value) (gs : List Nat) (w : World) : Prop := ∃ T, KM w1 w gC v P P T gs ∧ RS r P Req T
section
variable {r : RowD} {P gC : Nat} {Req Req' : Rel2} {w1 w w' : World} {v : Value} {gs : List Nat}
theorem RK.weak (h : RK r P Req w1 gC v gs w) (hq : ∀ x y, Req' x y → Req x y) : RK r P Req' w1 gC v gs w := by
 obtain ⟨T, h1, h2⟩ := h
 exact ⟨T, h1, h2.weak hq⟩
theorem RK.keep (h : RK r P Req w1 gC v gs w) (hb : Below w.heap.size w w') : RK r P Req w1 gC v gs w' := by
 obtain ⟨T, h1, h2⟩ := h
 exact ⟨T, h1.keep hb, h2⟩
theorem RK.drewN (h : RK r P Req w1 gC v gs w) (k : Nat) : RK r P Req w1 gC v gs (w.drewN k) := by
 obtain ⟨T, h1, h2⟩ := h
 exact ⟨T, h1.drewN k, h2⟩
theorem RK.bel (h : RK r P Req w1 gC v gs w) : Below w1.heap.size w1 w := by
 obtain ⟨T, h1, h2⟩ := h
 exact h1.b
theorem RK.bools (h : RK r P Req w1 gC v gs w) : ∀ g ∈ gs, ∃ cs, Blk w g 4 cs := by
 obtain ⟨T, h1, h2⟩ := h
 exact h1.bools
end
def PuPost (w1 : World) (gC : Nat) (v : Value) (P : Nat) (T : Nat → Nat → Bool) (gs : List Nat) (a b : Nat) (w : World) (en : Ending) (w' : World) : Prop := en = .returned (.tuple #[]) ∧ KM w1 w' gC v P P (put2 T a b) gs ∧ KeptBut gs w w'
set_option maxRecDepth 100000 in
set_option maxHeartbeats 4000000 in
theorem put_any (w1 : World) (gC : Nat) (v : Value) (P : Nat) (T : Nat → Nat → Bool) (gs : List Nat) (a b : Nat) (w : World) (h : KM w1 w gC v P P T gs) (ha : a < P) (hb : b < P) : Calls Tryz.prog 80 #[.pointer (some ⟨gC, 0, none⟩), .int .i64 (a : Int), .int .i64 (b : Int)] w (PuPost w1 gC v P T gs a b w) := by
 by_cases hab : a = b
 ·subst hab
  have t1 : ((a : Int) != (a : Int)) = false := by simp
  have HP := Lib.hid (show PuPost w1 gC v P T gs a a w (.returned (.tuple #[])) w from ⟨rfl, by rw [put2_same]; exact h, KeptBut.refl _ _⟩)
  clear h
  go_enter Tryz.func80, Tryz.ntmps80
  go_wp2
  go_end0
  exact HP.out
 ·have t1 : ((a : Int) != (b : Int)) = true := by simp; omega
  obtain ⟨gT, c, rfl, h1, h2, h3, h4, h5⟩ := h.t.at_ (by omega)
  obtain ⟨ga, hga⟩ : ∃ g, gs[a]? = some g := ⟨_, List.getElem?_eq_getElem (by rw [h.t.len]; exact ha)⟩
  obtain ⟨gb, hgb⟩ : ∃ g, gs[b]? = some g := ⟨_, List.getElem?_eq_getElem (by rw [h.t.len]; exact hb)⟩
  have c0 := h.c.cell 0
  simp at c0
  have y0 := h.c.lt
  have c1 := h4 a ga hga
  have c2 := h4 b gb hgb
  have ra := (h.t.rows a ga hga).2
  have rb := (h.t.rows b gb hgb).2
  have y1 := Blk.lt ra
  have y2 := Blk.lt rb
  have z1 := frz ra b
  have z2 := frz rb a
  have n1 : ga ≠ gb := fun e => hab (nodup_at h.t.nd hga (e ▸ hgb))
  have n2 : gb ≠ ga := fun e => n1 e.symm
  have ca := ra.cell hb
  have cb := rb.cell ha
  have t2 : (a : Int) < P := by omega
  have t3 : (b : Int) < P := by omega
  have HE := Lib.hid (put2_ne (T := T) hab)
  have HA := Lib.hid (show KM w1 ((w.setCell ⟨ga, b, none⟩ (.bool true)).setCell ⟨gb, a, none⟩ (.bool true)) gC (.slice (some ⟨gT, 0, none⟩) P c) P P (put2 T a b) gs by
   rw [HE.out]
   refine ((h.set (p := b) (b := true) hga).set (p := a) (b := true) hgb).congr (fun i p _ _ => ?_)
   unfold upd
   by_cases e : i = b <;> by_cases e2 : i = a <;> by_cases e3 : p = a <;> by_cases e4 : p = b <;> simp_all)
  have HB := Lib.hid (show KM w1 ((w.setCell ⟨gb, a, none⟩ (.bool true)).setCell ⟨ga, b, none⟩ (.bool true)) gC (.slice (some ⟨gT, 0, none⟩) P c) P P (put2 T a b) gs by
   rw [HE.out]
   refine ((h.set (p := a) (b := true) hgb).set (p := b) (b := true) hga).congr (fun i p _ _ => ?_)
   unfold upd
   by_cases e : i = b <;> by_cases e2 : i = a <;> by_cases e3 : p = a <;> by_cases e4 : p = b <;> simp_all)
  have HKA := Lib.hid (((kept_setCell (w := w) (S := gs) (g := ga) (i := b) (.bool true) (List.mem_of_getElem? hga)).trans (kept_setCell (g := gb) (i := a) (.bool true) (List.mem_of_getElem? hgb))))
  have HKB := Lib.hid (((kept_setCell (w := w) (S := gs) (g := gb) (i := a) (.bool true) (List.mem_of_getElem? hgb)).trans (kept_setCell (g := ga) (i := b) (.bool true) (List.mem_of_getElem? hga))))
  clear h h1 h3 h4 h5 hga hgb ra rb hab
  go_enter Tryz.func80, Tryz.ntmps80
  go_wp2_with fail
  go_region
  all_goals
   go_wp2
   go_end0
   first
    | exact ⟨rfl, HA.out.drewN _, HKA.out.trans (KeptBut.drewN _ _ _)⟩
    | exact ⟨rfl, HB.out.drewN _, HKB.out.trans (KeptBut.drewN _ _ _)⟩
    | exact ⟨rfl, HA.out.drewN 1, HKA.out.trans (KeptBut.drewN _ _ 1)⟩
    | exact ⟨rfl, HB.out.drewN 1, HKB.out.trans (KeptBut.drewN _ _ 1)⟩
def PkPost (r : RowD) (P : Nat) (Req : Rel2) (w1 : World) (gC : Nat) (v : Value) (gs : List Nat) (a b : Nat) (w : World) (en : Ending) (w' : World) : Prop :=
 en = .returned (.tuple #[]) ∧ (∀ Req' : Rel2, (∀ x y, Req' x y → Req x y ∨ (x = (a : Int) ∧ y = (b : Int))) → RK r P Req' w1 gC v gs w') ∧ KeptBut gs w w'
theorem put_rk (r : RowD) (P : Nat) (Req : Rel2) (w1 : World) (gC : Nat) (v : Value) (gs : List Nat) (a b : Nat) (w : World) (h : RK r P Req w1 gC v gs w) (ha : a < P) (hb : b < P) (hs : Sall r a b) :
  Calls Tryz.prog 80 #[.pointer (some ⟨gC, 0, none⟩), .int .i64 (a : Int), .int .i64 (b : Int)] w (PkPost r P Req w1 gC v gs a b w) := by
 obtain ⟨T, h1, h2⟩ := h
 exact (put_any w1 gC v P T gs a b w h1 ha hb).mono fun en w' ⟨e, h3, h4⟩ => ⟨e, fun Req' hq => ⟨_, h3, h2.put hs hq⟩, h4⟩
end Go.Proofs.YtgmapikcpnffhaaGreat
namespace Go.Bk.Liv
open Go Go.RowKit Go.Bk
set_option linter.unusedVariables false
set_option linter.unusedSimpArgs false
/-- what the calls ahead of k, and the first n of those behind k, say -/
structure AS (r : RowD) (P k : Nat) (l : List Int) (n : Nat) (f : Nat → Bool) : Prop where
 snd : ∀ p : Nat, p < P → f p = true → AcrossP r p
 req : ∀ (i : Nat) c (p : Nat), i < k → r.code[i]? = some c → c.op = 16 → p < P → LiveB r i p → (p : Int) ∉ c.outs → f p = true
 now : ∀ c (p : Nat), r.code[k]? = some c → c.op = 16 → p < P → (p : Int) ∈ l.take n → (p : Int) ∉ c.outs → f p = true
theorem AS.start (r : RowD) (P : Nat) (l : List Int) : AS r P 0 l 0 (fun _ => false) := ⟨fun p _ h => (by cases h), fun i c p h => by omega, fun c p _ _ _ h => by simp at h⟩
theorem AS.fresh {r : RowD} {P k n : Nat} {l l' : List Int} {f : Nat → Bool} (h : AS r P k l n f) : AS r P k l' 0 f := ⟨h.snd, h.req, fun c p _ _ _ h => by simp at h⟩
theorem AS.next {r : RowD} {P k n : Nat} {l l' : List Int} {f : Nat → Bool} (h : AS r P k l n f) (hl : ∀ c, r.code[k]? = some c → c.op = 16 → (∀ x, x ∈ l ↔ LiveB r k x) ∧ l.length ≤ n) : AS r P (k + 1) l' 0 f :=
 ⟨h.snd, fun i c p hi hc ho hp hb hn => by
  by_cases e : i = k
  ·subst e
   have h2 := hl c hc ho
   exact h.now c p hc ho hp ((take_all h2.2).2 ((h2.1 p).2 hb)) hn
  ·exact h.req i c p (by omega) hc ho hp hb hn, fun c p _ _ _ h => by simp at h⟩
theorem AS.skip {r : RowD} {P k n : Nat} {l : List Int} {f : Nat → Bool} {c : CodeD} {z : Int} (h : AS r P k l n f) (hc : r.code[k]? = some c) (hz : l[n]? = some z) (ho : z ∈ c.outs) : AS r P k l (n + 1) f :=
 ⟨h.snd, h.req, fun c' p hc' h16 hp hin hn => by
  rw [hc] at hc'
  injection hc' with hc'
  subst hc'
  rcases (take_step hz).1 hin with h1 | h1
  ·exact h.now c p hc h16 hp h1 hn
  ·rw [h1] at hn; exact absurd ho hn⟩
theorem AS.put {r : RowD} {P k n : Nat} {l : List Int} {f : Nat → Bool} {c : CodeD} {z : Nat} (h : AS r P k l n f) (hc : r.code[k]? = some c) (h16 : c.op = 16) (hz : l[n]? = some (z : Int)) (ho : (z : Int) ∉ c.outs) (hb : LiveB r k z) : AS r P k l (n + 1) (fun q => if q = z then true else f q) :=
 ⟨fun p hp hf => by
  by_cases e : p = z
  ·subst e; exact ⟨k, c, hc, h16, hb, ho⟩
  ·rw [if_neg e] at hf; exact h.snd p hp hf, fun i c' p hi hc' ho' hp hb' hn => by
   have := h.req i c' p hi hc' ho' hp hb' hn
   rw [this]; simp, fun c' p hc' h16' hp hin hn => by
  rcases (take_step hz).1 hin with h1 | h1
  ·have := h.now c' p hc' h16' hp h1 hn
   rw [this]; simp
  ·have : p = z := by omega
   simp [this]⟩
theorem AS.done {e : EnvD} {r : RowD} {P n : Nat} {l : List Int} {f : Nat → Bool} (h : AS r P r.code.length l n f) {p : Nat} (hp : p < P) : f p = true ↔ AcrossP r p :=
 ⟨h.snd p hp, fun ⟨i, c, hc, ho, hb, hn⟩ => h.req i c p (List.getElem?_eq_some_iff.1 hc).1 hc ho hp hb hn⟩
theorem AcrossP.range {e : EnvD} {r : RowD} (hc : CheckP e r) {x : Int} (h : AcrossP r x) : 0 ≤ x ∧ x < r.places := by
 obtain ⟨i, c, h1, h2, h3, h4⟩ := h
 exact h3.range hc
end Go.Bk.Liv
namespace Go.Proofs.YtgmapikcpnffhaaGreat
open Go.RowKit Go.Bk Go.Bk.Liv
set_option linter.unusedVariables false
set_option linter.unusedSimpArgs false
/-- the row in work, in memory -/
structure AcM (w w1 : World) (gl P : Nat) (f : Nat → Bool) (wi : World) : Prop where
 l : RB 4 wi gl P f
 lo : w1.heap.size ≤ gl
 b : Below w1.heap.size w1 wi
theorem AcM.set {w w1 wi : World} {gl P : Nat} {f : Nat → Bool} (h : AcM w w1 gl P f wi) (p : Nat) : AcM w w1 gl P (fun q => if q = p then true else f q) (wi.setCell ⟨gl, p, none⟩ (.bool true)) :=
 ⟨h.l.set p true, h.lo, h.b.setCell (p := ⟨gl, p, none⟩) h.lo _⟩
theorem AcM.drewN {w w1 wi : World} {gl P : Nat} {f : Nat → Bool} (h : AcM w w1 gl P f wi) (k : Nat) : AcM w w1 gl P f (wi.drewN k) := ⟨h.l, h.lo, below_drewN h.b k⟩
def RAcPost (e : EnvD) (r : RowD) (w : World) (en : Ending) (w' : World) : Prop :=
 (¬ CheckP e r ∧ en = .returned (.tuple #[.slice none 0 0, .int .i64 6]) ∧ Below w.heap.size w w') ∨
 (CheckP e r ∧ ∃ v p, en = .returned (.tuple #[v, .int .i64 0]) ∧ w'.ownsRow w.heap.size 3 1 v p.length (i64s p) ∧ p.length ≤ 4096 ∧ IsSet p (AcrossP r) ∧ Below w.heap.size w w')
theorem rin_q {v : Value} {l : List Int} {x : Int} {w : World} {b : Bool} (hs : IR w v l) (hm : l.length ≤ 9223372036854775806) (hb : decide (x ∈ l) = b) :
  Calls Tryz.prog 82 #[v, .int .i64 x] w fun e w' => e = .returned (.bool b) ∧ w' = w := by
 subst hb
 exact (rin_any v l x w hs hm).mono fun _ _ h => ⟨h.1, h.2.symm⟩
set_option maxRecDepth 100000 in
set_option maxHeartbeats 8000000 in
theorem rAcross_any (e : EnvD) (r : RowD) (ve vr : Value) (w : World) (he : EnvV w ve e) (hr : RowV w vr r) : Calls Tryz.prog 39 #[ve, vr] w (RAcPost e r w) := by
 have HE := Lib.hid he
 obtain ⟨va, vb, vd, rfl, h1, h2, h3⟩ := he
 obtain ⟨vp, vq, vr, vs, rfl, h4, h5, h6, h7⟩ := hr
 obtain ⟨Ac, cc, rfl, _⟩ := h7.len
 have H7 := Lib.hid h7
 have HR0 := Lib.hid (show RowV w (.agg #[vp, vq, .int .i64 r.places, vr, .slice Ac r.code.length cc]) r from ⟨vp, vq, vr, _, rfl, h4, h5, h6, h7⟩)
 obtain ⟨n, hn⟩ : ∃ n, r.code.length = n := ⟨_, rfl⟩
 rw [hn] at HR0 ⊢
 have HN := Lib.hid hn
 clear h1 h2 h3 h4 h5 h6 h7 hn
 have HB0 := Lib.hid (al2 w (.cells #[va, .int .i64 e.imports, vb, vd, .bool e.mem] 26) (.cells #[vp, vq, .int .i64 r.places, vr, .slice Ac n cc] 31))
 have KR0 := Lib.hid (Blk.newAt (w.alloc (.cells #[va, .int .i64 e.imports, vb, vd, .bool e.mem] 26)) (N := w.heap.size + 1) 31 #[vp, vq, .int .i64 r.places, vr, .slice Ac n cc] (by simp))
 go_enter Tryz.func39, Tryz.ntmps39
 go_wp2_with fail
 (with_reducible refine (rBehind_any e r _ _ _ (HE.out.below HB0.out (Nat.le_refl _)) (HR0.out.below HB0.out (Nat.le_refl _))).mono ?_)
 rintro en w1 (⟨hnc, rfl, hb⟩ | ⟨hc, v, rfl, hT, hb⟩)
 ·have HB := Lib.hid (HB0.out.trans (hb.mono HB0.out.size))
  have HNC := Lib.hid hnc
  clear hnc hb
  go_wp2
  go_ret2
  exact .inl ⟨HNC.out, rfl, HB.out⟩
 ·have HB := Lib.hid (HB0.out.trans (hb.mono HB0.out.size))
  have HC := Lib.hid hc
  have k1 := KR0.out.below hb KR0.out.lt
  obtain ⟨P, hP⟩ : ∃ P : Nat, r.places = P := ⟨r.places.toNat, by have := hc.p1; omega⟩
  rw [hP] at k1
  have hP4 : P ≤ 4096 := by have := hc.p2; omega
  have hn4 : n ≤ 4096 := by have := hc.n2; have := HN.out; omega
  have HP := Lib.hid hP
  rw [HN.out] at hT
  have HT := Lib.hid hT
  obtain ⟨Av, cv, rfl⟩ := hT.shape
  have KR1 := Lib.hid k1
  obtain ⟨r0, r1, r2, r3, r4⟩ := blk5 k1
  have y1 := k1.lt
  have mk := run_mk (P := Tryz.prog) 24 4 (.bool false) 1 Tryz.underlying24 info_bool rfl P (by omega) (by omega)
  clear hb hc hT hP k1 r0 r1 r3 r4
  go_wp2
  have HM0 := Lib.hid (show AcM w w1 w1.heap.size P (fun _ => false) (w1.alloc (.cells (Array.replicate P (.bool false)) 4)) from ⟨RB.new (t := 4) w1 (n := P) false rfl, Nat.le_refl _, (Below.refl _ _).alloc (Nat.le_refl _) _⟩)
  clear mk r2 y1
  go_loopw [9] (fun i wi => ∃ (k : Nat) (f : Nat → Bool), k ≤ n ∧ i = .int .i64 k ∧ Hid (AcM w w1 w1.heap.size P f wi) ∧ Hid (AS r P k [] 0 f)) (fun i _ => n - (intOf i).toNat)
  case atStart => exact ⟨0, _, by omega, rfl, HM0, Lib.hid (AS.start r P _)⟩
  case round =>
   clear HM0
   obtain ⟨k, f, hk, rfl, IM, IS⟩ := hrel
   obtain ⟨r0, r1, r2, r3, r4⟩ := blk5 (KR1.out.below IM.out.b KR1.out.lt)
   have y1 := (KR1.out.below IM.out.b KR1.out.lt).lt
   by_cases hkn : k < n
   ·have t1 : decide ((k : Int) < n) = true := by simp; omega
    have t2 : (k : Int) < n := by omega
    obtain ⟨c, hc⟩ : ∃ c, r.code[k]? = some c := ⟨_, List.getElem?_eq_getElem (by rw [HN.out]; exact hkn)⟩
    have HCK := Lib.hid hc
    obtain ⟨gb, go, vp', vq', vt', rfl, hgb, g0, g1, g2, g3, g4, s0, s1, s2, s3⟩ := H7.out.code hc
    obtain ⟨qA, qc, rfl⟩ := s2.shape
    have HOI := Lib.hid s2.ir
    obtain ⟨mo, hmo⟩ : ∃ m, c.outs.length = m := ⟨_, rfl⟩
    obtain ⟨_, _, _, _, hoL⟩ := s2.len
    rw [hmo] at HOI g3 hoL
    have HMO := Lib.hid hmo
    have G0 := Lib.hid g0
    have G3 := Lib.hid g3
    obtain ⟨p, hp⟩ := HT.out.get hkn
    have HPS := Lib.hid hp
    have hpl := hp.small HC.out (fun x hx => hx.range HC.out)
    obtain ⟨m, hm⟩ : ∃ m, p.length = m := ⟨_, rfl⟩
    rw [hm] at hpl
    have HM := Lib.hid hm
    have IS0 := Lib.hid (IS.out.fresh (l' := p))
    clear hc hmo g0 g1 g2 g3 g4 s0 s1 s2 s3 hp hm IS
    go_wp2_with fail
    clear r0 r1 r2 r3 r4 y1
    go_loopw [10] (fun i wi => ∃ (j : Nat) (f : Nat → Bool), j ≤ m ∧ i = .int .i64 j ∧ Hid (AcM w w1 w1.heap.size P f wi) ∧ Hid (AS r P k p j f)) (fun i _ => m - (intOf i).toNat)
    case atStart => exact ⟨0, f, by omega, rfl, IM, IS0⟩
    case round =>
     clear IS0 IM
     obtain ⟨j, f, hj, rfl, IM, IS⟩ := hrel
     have KRr := KR1.out.below IM.out.b KR1.out.lt
     obtain ⟨r0, r1, r2, r3, r4⟩ := blk5 KRr
     have y1 := KRr.lt
     have HBr := Lib.hid (HB.out.trans (IM.out.b.mono HB.out.size))
     have g0 := (HBr.out.cell (p := ⟨gb, _, none⟩) hgb).trans G0.out
     have g3 := (HBr.out.cell (p := ⟨gb, _, none⟩) hgb).trans G3.out
     have y2 : gb < wr.heap.size := by have := HBr.out.size; omega
     obtain ⟨b, o, B, kB, rfl, hb, hcl, hir⟩ := (HT.out.below IM.out.b).first hkn HPS.out
     rw [HM.out] at hcl hir
     have HIR := Lib.hid hir
     clear hir KRr
     by_cases hjm : j < m
     ·have t3 : decide ((j : Int) < m) = true := by simp; omega
      have t4 : (j : Int) < m := by omega
      obtain ⟨x, hx⟩ : ∃ x, p[j]? = some x := ⟨_, List.getElem?_eq_getElem (by rw [HM.out]; exact hjm)⟩
      have hlb := (HPS.out.2 x).1 (List.mem_of_getElem? hx)
      have hxr := hlb.range HC.out
      rw [HP.out] at hxr
      obtain ⟨z, rfl⟩ : ∃ z : Nat, x = z := ⟨x.toNat, by omega⟩
      have hzP : (z : Int) < P := hxr.2
      obtain ⟨ab, ao, rfl, hab, hcx⟩ := HIR.out.cell hx
      have y3 := Blk.lt IM.out.l
      have z3 := frz IM.out.l z
      obtain ⟨u3, c3⟩ : ∃ u, wr.cell? ⟨w1.heap.size, z, none⟩ = some u := ⟨_, IM.out.l.cell (by omega)⟩
      have HX := Lib.hid hx
      have HLB := Lib.hid hlb
      clear hx hlb hxr
      by_cases hop : c.op = 16
      ·have t5 : (c.op == 16) = true := by simp [hop]
       have HOP := Lib.hid hop
       clear hop
       by_cases ho : (z : Int) ∈ c.outs
       ·have HW := Lib.hid (IS.out.skip HCK.out HX.out ho)
        have HO := Lib.hid (decide_eq_true ho)
        clear ho IS
        go_wp2_with fail
        go_quiet ((go_at_call 82; exact Calls.quiet_of_same (rin_q ((HOI.out.below HBr.out (Nat.le_refl _)).drewN _) (by rw [HMO.out]; omega) HO.out)))
        go_wp2
        exact ⟨⟨j + 1, f, by omega, by simp, Lib.hid (IM.out.drewN _), HW⟩, by simp [intOf]; omega⟩
       ·have HW := Lib.hid (IS.out.put HCK.out HOP.out HX.out ho HLB.out)
        have HO := Lib.hid (decide_eq_false ho)
        clear ho IS
        go_wp2_with fail
        go_quiet ((go_at_call 82; exact Calls.quiet_of_same (rin_q ((HOI.out.below HBr.out (Nat.le_refl _)).drewN _) (by rw [HMO.out]; omega) HO.out)))
        go_wp2
        exact ⟨⟨j + 1, _, by omega, by simp, Lib.hid ((IM.out.drewN _).set z), HW⟩, by simp [intOf]; omega⟩
      ·have t5 : (c.op == 16) = false := by simp [hop]
       have HW := Lib.hid (IS.out.next (l' := []) (fun c' hc' h16 => by rw [HCK.out] at hc'; injection hc' with hc'; subst hc'; exact absurd h16 hop))
       clear hop IS
       go_wp2
       exact ⟨⟨k + 1, f, by omega, by simp, IM, HW⟩, by simp [intOf]; omega⟩
     ·have t3 : decide ((j : Int) < m) = false := by simp; omega
      have HW := Lib.hid (IS.out.next (l' := []) (fun c' hc' h16 => ⟨HPS.out.2, by rw [HM.out]; omega⟩))
      clear IS
      go_wp2
      exact ⟨⟨k + 1, f, by omega, by simp, IM, HW⟩, by simp [intOf]; omega⟩
   ·have t1 : decide ((k : Int) < n) = false := by simp; omega
    have hkn2 : k = n := by omega
    subst hkn2
    have HSR := Lib.hid IM.out.l.src
    have HBr := Lib.hid (HB.out.trans (IM.out.b.mono HB.out.size))
    go_wp2_with fail
    (with_reducible refine (list_any _ P _ f _ HSR.out hP4).mono ?_)
    rintro en w3 ⟨u, q, rfl, ho, hql, hset, hb3⟩
    have HO := Lib.hid (own_mono ho HBr.out.size)
    have HQ := Lib.hid (show q.length ≤ 4096 by omega)
    have HST := Lib.hid (show IsSet q (AcrossP r) from row_live (e := e) (r := r) hset (fun z hz => by
     have h := IS.out
     rw [← HN.out] at h
     exact h.done (e := e) hz) (fun x hx => by have := hx.range HC.out; rw [HP.out] at this; exact this))
    have HB3 := Lib.hid (HBr.out.trans (hb3.mono HBr.out.size))
    clear ho hql hset hb3
    go_wp2
    go_ret2
    exact .inr ⟨HC.out, u, q, rfl, HO.out, HQ.out, HST.out, HB3.out⟩
end Go.Proofs.YtgmapikcpnffhaaGreat
namespace Go.Bk.Liv
open Go Go.RowKit Go.Bk
set_option linter.unusedVariables false
set_option linter.unusedSimpArgs false
theorem grown_undrew' {w w' : World} {r : Option Nat} (h : w.drew.grownBy w' r) : w.grownBy w' r := ⟨h.os, h.tape, h.output, h.size, h.block⟩
end Go.Bk.Liv
namespace Go.Proofs.YtgmapikcpnffhaaGreat
open Go.RowKit Go.Bk Go.Bk.Liv
set_option linter.unusedVariables false
set_option linter.unusedSimpArgs false
/-- a row is laid behind the table's others -/
theorem KM.push {w1 w w' : World} {gC k P gg cap : Nat} {v : Value} {gs : List Nat} (h : KM w1 w gC v k P (fun _ _ => false) gs)
  (ho : w'.ownsRow w1.heap.size 24 1 (.slice (some ⟨gg, 0, none⟩) (k + 1) cap) (k + 1) (rowsV gs P ++ [.slice (some ⟨w.heap.size, 0, none⟩) P P]))
  (hg : ((w.alloc (.cells (Array.replicate P (.bool false)) 4)).alloc (.cells #[.slice (some ⟨w.heap.size, 0, none⟩) P P] 24)).grownBy w' v.ownBlock) :
  KM w1 (w'.setCell ⟨gC, 0, none⟩ (.slice (some ⟨gg, 0, none⟩) (k + 1) cap)) gC (.slice (some ⟨gg, 0, none⟩) (k + 1) cap) (k + 1) P (fun _ _ => false) (gs ++ [w.heap.size]) := by
 have h2 := (h.alloc (.cells (Array.replicate P (.bool false)) 4)).alloc (.cells #[.slice (some ⟨w.heap.size, 0, none⟩) P P] 24)
 have ht := h2.t.push (g := w.heap.size) (f := fun _ => false) (Blk.alloc (RB.new (t := 4) w (n := P) false rfl) _) h.b.size (fun x hx => by have := h.t.lt_ x hx; omega) ho hg
 have hc := h2.c.grown hg (own_ne h2.t.own h2.c (by decide))
 have ht2 := ht.congr (T' := fun _ _ => false) (fun i p _ _ => by
  by_cases e : i = k
  ·subst e; rw [upd_same]
  ·rw [upd_other e])
 refine ⟨⟨own_other ht2.own (own_ne ht2.own hc (by decide)), ht2.len, ht2.nd, fun i g hgi => ⟨(ht2.rows i g hgi).1, blk_other (ht2.rows i g hgi).2 (blk_ne (show Blk w' g 4 _ from (ht2.rows i g hgi).2) hc (by decide))⟩⟩, ?_, h.lo, ?_⟩
 ·have := blk_setSame hc 0 (.slice (some ⟨gg, 0, none⟩) (k + 1) cap)
  simpa using this
 ·exact (below_grown h2.b hg h2.b.size (fun j hj => (h2.t.own.lt j hj).1)).setCell (p := ⟨gC, 0, none⟩) h.lo _
theorem KM.drew' {w1 w : World} {gC n P : Nat} {v : Value} {T : Nat → Nat → Bool} {gs : List Nat} (h : KM w1 w gC v n P T gs) : KM w1 w.drew gC v n P T gs := ⟨h.t.drew, h.c, h.lo, ⟨h.b.os, h.b.tape, h.b.output, h.b.size, h.b.block⟩⟩
theorem RK.drew' {r : RowD} {P gC : Nat} {Req : Rel2} {w1 w : World} {v : Value} {gs : List Nat} (h : RK r P Req w1 gC v gs w) : RK r P Req w1 gC v gs w.drew := by
 obtain ⟨T, h1, h2⟩ := h
 exact ⟨T, h1.drew', h2⟩
theorem RK.drewN' {r : RowD} {P gC : Nat} {Req : Rel2} {w1 w : World} {v : Value} {gs : List Nat} (h : RK r P Req w1 gC v gs w) (n : Nat) : RK r P Req w1 gC v gs (w.drewN n) := by
 induction n with
 | zero => exact h
 | succ n ih =>
  have := ih.drew'
  exact this
theorem Told.drew' {w : World} {base n : Nat} {v : Value} {Q : Nat → Int → Prop} (h : Told w base v n Q) : Told w.drew base v n Q := by
 obtain ⟨vs, P, h1, h2, h3, h4⟩ := h
 exact ⟨vs, P, h1, ⟨h2.1, h2.2⟩, h3, h4⟩
theorem own_drew' {w : World} {base : Nat} {e : TypeId} {size n : Nat} {v : Value} {xs : List Value} (h : w.ownsRow base e size v n xs) : w.drew.ownsRow base e size v n xs := h
/-- what a call of put keeps of other memory -/
theorem blk_put {S : List Nat} {w w' : World} {g : Nat} {t : TypeId} {cs : Array Value} (h : Blk w g t cs) (hk : KeptBut S w w') (hS : ∀ g ∈ S, ∃ cs, Blk w g 4 cs) (ht : t ≠ 4) : Blk w' g t cs :=
 blk_kept h hk (fun hin => by
  obtain ⟨cs', hb⟩ := hS g hin
  exact blk_ne h hb ht rfl)
set_option maxRecDepth 100000 in
set_option maxHeartbeats 16000000 in
theorem rClash_any (e : EnvD) (r : RowD) (ve vr : Value) (w : World) (he : EnvV w ve e) (hr : RowV w vr r) : Calls Tryz.prog 38 #[ve, vr] w (AhPost e r r.places.toNat (fun i => Clashes r (i : Int)) w) := by
  have HE := Lib.hid he
  obtain ⟨va, vb, vd, rfl, h1, h2, h3⟩ := he
  obtain ⟨vp, vq, vr, vs, rfl, h4, h5, h6, h7⟩ := hr
  obtain ⟨Ac, cc, rfl, _⟩ := h7.len
  obtain ⟨Ar, cr, rfl⟩ := h6.shape
  have H7 := Lib.hid h7
  have HPI := Lib.hid h6.ir
  obtain ⟨_, _, _, _, hpL⟩ := h6.len
  have HR0 := Lib.hid (show RowV w (.agg #[vp, vq, .int .i64 r.places, .slice Ar r.params.length cr, .slice Ac r.code.length cc]) r from ⟨vp, vq, _, _, rfl, h4, h5, h6, h7⟩)
  obtain ⟨n, hn⟩ : ∃ n, r.code.length = n := ⟨_, rfl⟩
  obtain ⟨np, hnp⟩ : ∃ np, r.params.length = np := ⟨_, rfl⟩
  rw [hn, hnp] at HR0 ⊢
  rw [hnp] at HPI hpL
  have HN := Lib.hid hn
  have HNP := Lib.hid hnp
  clear h1 h2 h3 h4 h5 h6 h7 hn hnp
  have HB0 := Lib.hid (al2 w (.cells #[va, .int .i64 e.imports, vb, vd, .bool e.mem] 26) (.cells #[vp, vq, .int .i64 r.places, .slice Ar np cr, .slice Ac n cc] 31))
  have KR0 := Lib.hid (Blk.newAt (w.alloc (.cells #[va, .int .i64 e.imports, vb, vd, .bool e.mem] 26)) (N := w.heap.size + 1) 31 #[vp, vq, .int .i64 r.places, .slice Ar np cr, .slice Ac n cc] (by simp))
  have KE0 := Lib.hid (Blk.alloc (Blk.new w 26 #[va, .int .i64 e.imports, vb, vd, .bool e.mem]) (.cells #[vp, vq, .int .i64 r.places, .slice Ar np cr, .slice Ac n cc] 31))
  go_enter Tryz.func38, Tryz.ntmps38
  go_wp2_with fail
  (with_reducible refine (rBehind_any e r _ _ _ (HE.out.below HB0.out (Nat.le_refl _)) (HR0.out.below HB0.out (Nat.le_refl _))).mono ?_)
  rintro en w1 (⟨hnc, rfl, hb⟩ | ⟨hc, v, rfl, hT, hb⟩)
  · have HB := Lib.hid (HB0.out.trans (hb.mono HB0.out.size))
    have HNC := Lib.hid hnc
    clear hnc hb
    go_wp2
    go_ret2
    exact .inl ⟨HNC.out, rfl, HB.out⟩
  · have HB := Lib.hid (HB0.out.trans (hb.mono HB0.out.size))
    have HC := Lib.hid hc
    have k1 := KR0.out.below hb KR0.out.lt
    have ke1 := KE0.out.below hb KE0.out.lt
    obtain ⟨P, hP⟩ : ∃ P : Nat, r.places = P := ⟨r.places.toNat, by have := hc.p1; omega⟩
    have hPt : r.places.toNat = P := by omega
    have HPT := Lib.hid hPt
    rw [hP] at k1 HR0
    have hP4 : P ≤ 4096 := by have := hc.p2; omega
    have hn4 : n ≤ 4096 := by have := hc.n2; have := HN.out; omega
    have hn1 : 0 < n := by have := hc.n1; have := HN.out; omega
    have HP := Lib.hid hP
    rw [HN.out] at hT
    have HT := Lib.hid hT
    obtain ⟨Av, cv, rfl⟩ := hT.shape
    have KR1 := Lib.hid k1
    have KE1 := Lib.hid ke1
    obtain ⟨gC, hgC⟩ : ∃ gC, w1.heap.size = gC := ⟨_, rfl⟩
    have HM0 := Lib.hid (show KM w1 (w1.alloc (.cells #[.slice none 0 0] 130)) gC (.slice none 0 0) 0 P (fun _ _ => false) [] from
      ⟨TM.nil _ _ _ _, Blk.newAt _ _ _ hgC, Nat.le_of_eq hgC, (Below.refl _ _).alloc (Nat.le_refl _) _⟩)
    have HGC := Lib.hid hgC
    have mk := run_mk (P := Tryz.prog) 24 4 (.bool false) 1 Tryz.underlying24 info_bool rfl P (by omega) (by omega)
    clear hb hc hT hP hPt k1 ke1 KR0 KE0 HB0
    go_wp2
    (try rw [hgC])
    clear hgC
    go_loopw [9] (fun i wr => ∃ (k : Nat) (v : Value) (gs : List Nat), k ≤ P ∧ i = .int .i64 k ∧ Hid (KM w1 wr gC v k P (fun _ _ => false) gs)) (fun i _ => P - (intOf i).toNat)
    case atStart => exact ⟨0, _, [], by omega, rfl, HM0⟩
    case round =>
      as_aux_lemma =>
      clear HM0
      obtain ⟨k, v, gs, hk, rfl, IM⟩ := hrel
      obtain ⟨Av2, cv2, hv⟩ := IM.out.t.shape
      subst hv
      have KRr := KR1.out.below IM.out.b KR1.out.lt
      obtain ⟨r0, r1, r2, r3, r4⟩ := blk5 KRr
      have y1 := KRr.lt
      have hbz := IM.out.b.size
      by_cases hkP : k < P
      · have t1 : decide ((k : Int) < P) = true := by simp; omega
        have t2 : (k : Int) < P := by omega
        have c0 := IM.out.c.cell 0
        simp at c0
        have c1 := frz IM.out.c 0
        have c2 := IM.out.c.lt
        obtain ⟨i0, hi0, hz0, hz1, hz2⟩ := info_parts info_bools
        have IO2 := Lib.hid (own_alloc (own_alloc IM.out.t.own (.cells (Array.replicate P (.bool false)) 4)) (.cells #[.slice (some ⟨wr.heap.size, 0, none⟩) P P] 24))
        have IC2 := Lib.hid ((IM.out.c.alloc (.cells (Array.replicate P (.bool false)) 4)).alloc (.cells #[.slice (some ⟨wr.heap.size, 0, none⟩) P P] 24))
        have ICn := Lib.hid (own_ne IO2.out IC2.out (by decide))
        clear KRr r0 r1 r3 r4
        go_wp2_with fail
        go_region_law
          ((refine step_append_lies _ (by rfl) _ _ _ (by rfl) w1.heap.size 24 i0 _ 1 24 Tryz.underlying91 hi0 hz0 hz1 hz2 rfl (by omega) _ k (rowsV gs P) (by rfl) (own_drew' IO2.out)
              ⟨wr.heap.size + 1, 0, none⟩ 1 1 [.slice (some ⟨wr.heap.size, 0, none⟩) P P] (by rfl) (by rfl) (World.news_of_block (cs := #[.slice (some ⟨wr.heap.size, 0, none⟩) P P]) (t := 24) (fr := (0, 0)) (Blk.newAt _ _ _ (by simp))) (one_slice _ _ _)
              (by omega) (by unfold maxLen; omega) (by omega) (by simp; omega) (wr.heap.size + 2) (by simp) ?_; intro gg cap w3 hown1 hgrow hat hlt3; have k0 := (IC2.out.grown (grown_undrew' hgrow) ICn.out).cell 0; have k2 := frz (IC2.out.grown (grown_undrew' hgrow) ICn.out) 0; have k3 := (IC2.out.grown (grown_undrew' hgrow) ICn.out).lt))
        all_goals
          have HM2 := Lib.hid (IM.out.push hown1 (grown_undrew' hgrow))
          clear hown1 hgrow hat hlt3 k0 k2 k3 IM IO2 IC2 ICn
          go_wp2
          exact ⟨⟨k + 1, _, _, by omega, by simp, HM2⟩, by simp [intOf]; omega⟩
      · have t1 : decide ((k : Int) < P) = false := by simp; omega
        have hkP2 : k = P := by omega
        subst hkP2
        have HK0 := Lib.hid (show RK r k (ReqC r 0) w1 gC (.slice Av2 k cv2) gs wr from ⟨_, IM.out, RS.start r k (fun x y ⟨i, _, h, _⟩ => by omega)⟩)
        clear IM KRr hbz mk
        go_wp2
        clear r0 r1 r2 r3 r4 y1 t1 hk hkP
        go_loopw [10] (fun i wr => ∃ q : Nat, q ≤ n ∧ i = .int .i64 q ∧ Hid (RK r k (ReqC r q) w1 gC (.slice Av2 k cv2) gs wr)) (fun i _ => n - (intOf i).toNat)
        case atStart => exact ⟨0, by omega, rfl, HK0⟩
        case round =>
          as_aux_lemma =>
          clear HK0
          obtain ⟨q, hq, rfl, IK⟩ := hrel
          have KRr := KR1.out.below IK.out.bel KR1.out.lt
          obtain ⟨r0, r1, r2, r3, r4⟩ := blk5 KRr
          have y1 := KRr.lt
          by_cases hqn : q < n
          · as_aux_lemma =>
            have t1 : decide ((q : Int) < n) = true := by simp; omega
            have t2 : (q : Int) < n := by omega
            obtain ⟨c, hc⟩ : ∃ c, r.code[q]? = some c := ⟨_, List.getElem?_eq_getElem (by rw [HN.out]; exact hqn)⟩
            have HCK := Lib.hid hc
            have HBr := Lib.hid (HB.out.trans (IK.out.bel.mono HB.out.size))
            obtain ⟨gb, go, vp', vq', vt', rfl, hgb, g0, g1, g2, g3, g4, s0, s1, s2, s3⟩ := H7.out.code hc
            replace g0 := (HBr.out.cell (p := ⟨gb, _, none⟩) hgb).trans g0
            replace g1 := (HBr.out.cell (p := ⟨gb, _, none⟩) hgb).trans g1
            replace g2 := (HBr.out.cell (p := ⟨gb, _, none⟩) hgb).trans g2
            replace g3 := (HBr.out.cell (p := ⟨gb, _, none⟩) hgb).trans g3
            replace g4 := (HBr.out.cell (p := ⟨gb, _, none⟩) hgb).trans g4
            have y2 : gb < wr.heap.size := by have := HBr.out.size; omega
            obtain ⟨pA, pc, rfl⟩ := s1.shape
            obtain ⟨qA, qc, rfl⟩ := s2.shape
            obtain ⟨tA, tc, rfl⟩ := s3.shape
            have HAI := Lib.hid s1.ir
            have HOI := Lib.hid s2.ir
            obtain ⟨_, _, _, _, haL⟩ := s1.len
            obtain ⟨_, _, _, _, hoL⟩ := s2.len
            obtain ⟨ma, hma⟩ : ∃ m, c.args.length = m := ⟨_, rfl⟩
            obtain ⟨mo, hmo⟩ : ∃ m, c.outs.length = m := ⟨_, rfl⟩
            rw [hma] at HAI g2 haL
            rw [hmo] at HOI g3 hoL
            have HMA := Lib.hid hma
            have HMO := Lib.hid hmo
            have hpl := Lib.hid (codeOk_places (HC.out.code c (List.mem_of_getElem? hc)))
            obtain ⟨p, hp⟩ := HT.out.get hqn
            have HPS := Lib.hid hp
            have hpz := hp.small HC.out (fun x hx => hx.range HC.out)
            obtain ⟨m, hm⟩ : ∃ m, p.length = m := ⟨_, rfl⟩
            rw [hm] at hpz
            have HM := Lib.hid hm
            obtain ⟨gk, hgk⟩ : ∃ gk, wr.heap.size = gk := ⟨_, rfl⟩
            have HK1 := Lib.hid ((IK.out.weak (Req' := ReqO r q c 0) (fun x y h => reqO_start x y h)).keep ((Below.refl wr.heap.size wr).alloc (Nat.le_refl _) (.cells #[.int .i64 c.op, .int .u64 (c.n : Int), .slice pA ma pc, .slice qA mo qc, .slice tA c.to.length tc] 48)))
            have KC1 := Lib.hid (Blk.newAt wr (N := gk) 48 #[.int .i64 c.op, .int .u64 (c.n : Int), .slice pA ma pc, .slice qA mo qc, .slice tA c.to.length tc] hgk)
            clear hc s0 s1 s2 s3 hma hmo hp hm KRr IK
            go_wp2_with fail
            (try rw [hgk])
            clear hgk g0 g1 g2 g3 g4 r0 r1 r2 r3 r4 y1 y2
            go_loopw [12] (fun i wr => ∃ j : Nat, j ≤ mo ∧ i = .int .i64 j ∧ Hid (RK r k (ReqO r q c j) w1 gC (.slice Av2 k cv2) gs wr) ∧ Hid (Blk wr gk 48 #[.int .i64 c.op, .int .u64 (c.n : Int), .slice pA ma pc, .slice qA mo qc, .slice tA c.to.length tc])) (fun i _ => mo - (intOf i).toNat)
            case atStart => exact ⟨0, by omega, rfl, HK1, KC1⟩
            case round =>
              as_aux_lemma =>
              clear HK1 KC1
              obtain ⟨j, hj, rfl, IK, IC⟩ := hrel
              obtain ⟨d0, d1, d2, d3, d4⟩ := blk5 IC.out
              have y3 := IC.out.lt
              by_cases hjo : j < mo
              · have t3 : decide ((j : Int) < mo) = true := by simp; omega
                have t4 : (j : Int) < mo := by omega
                obtain ⟨o, ho⟩ : ∃ o, c.outs[j]? = some o := ⟨_, List.getElem?_eq_getElem (by rw [HMO.out]; exact hjo)⟩
                have hor := hpl.out.2.1 o (List.mem_of_getElem? ho)
                rw [HP.out] at hor
                obtain ⟨zo, rfl⟩ : ∃ z : Nat, o = z := ⟨o.toNat, by omega⟩
                have hzo : zo < k := by omega
                have HO := Lib.hid ho
                have HK2 := Lib.hid (IK.out.weak (Req' := ReqT r q c j (zo : Int) p 0) (fun x y h => reqT_start x y h))
                clear ho hor IK
                go_wp2_with fail
                clear d0 d1 d2 d3 d4 y3
                go_loopw [13] (fun i wr => ∃ z : Nat, z ≤ m ∧ i = .int .i64 z ∧ Hid (RK r k (ReqT r q c j (zo : Int) p z) w1 gC (.slice Av2 k cv2) gs wr) ∧ Hid (Blk wr gk 48 #[.int .i64 c.op, .int .u64 (c.n : Int), .slice pA ma pc, .slice qA mo qc, .slice tA c.to.length tc])) (fun i _ => m - (intOf i).toNat)
                case atStart => exact ⟨0, by omega, rfl, HK2, IC⟩
                case round =>
                  as_aux_lemma =>
                  clear HK2 IC
                  obtain ⟨z, hz, rfl, IK, IC⟩ := hrel
                  obtain ⟨d0, d1, d2, d3, d4⟩ := blk5 IC.out
                  have y3 := IC.out.lt
                  have HBr2 := Lib.hid (HB.out.trans (IK.out.bel.mono HB.out.size))
                  obtain ⟨b, o, B, kB, rfl, hb, hcl, hir⟩ := (HT.out.below IK.out.bel).first hqn HPS.out
                  rw [HM.out] at hcl hir
                  have HIR := Lib.hid hir
                  clear hir
                  by_cases hzm : z < m
                  · have t5 : decide ((z : Int) < m) = true := by simp; omega
                    have t6 : (z : Int) < m := by omega
                    obtain ⟨x, hx⟩ : ∃ x, p[z]? = some x := ⟨_, List.getElem?_eq_getElem (by rw [HM.out]; exact hzm)⟩
                    have hlb := (HPS.out.2 x).1 (List.mem_of_getElem? hx)
                    have hxr := hlb.range HC.out
                    rw [HP.out] at hxr
                    obtain ⟨zx, rfl⟩ : ∃ z : Nat, x = z := ⟨x.toNat, by omega⟩
                    have hzx : zx < k := by omega
                    obtain ⟨ab, ao, rfl, hab, hcx⟩ := HIR.out.cell hx
                    obtain ⟨ob, oo, rfl, hob, hco⟩ := (HOI.out.below HBr2.out (Nat.le_refl _)).cell HO.out
                    have HX := Lib.hid hx
                    have HLB := Lib.hid hlb
                    clear hx hlb hxr
                    by_cases hop : c.op = 272
                    · have t7 : (c.op != 272) = false := by simp [hop]
                      have hm1 := move_args (HC.out.code c (List.mem_of_getElem? HCK.out)) hop
                      rw [HMA.out] at hm1
                      obtain ⟨a0, ha0⟩ : ∃ a, c.args[0]? = some a := ⟨_, List.getElem?_eq_getElem (by rw [HMA.out]; omega)⟩
                      obtain ⟨eb, eo, rfl, heb, hce⟩ := (HAI.out.below HBr2.out (Nat.le_refl _)).cell ha0
                      rw [Nat.add_zero] at hce
                      have t8 : (0 : Int) < (ma : Int) := by omega
                      have t8n : 0 < ma := by omega
                      have HA0 := Lib.hid ha0
                      have HOP := Lib.hid hop
                      clear ha0 hop hm1
                      by_cases hxa : (zx : Int) = a0
                      · have t9 : ((zx : Int) != a0) = false := by simp [hxa]
                        have HK3 := Lib.hid (IK.out.weak (Req' := ReqT r q c j (zo : Int) p (z + 1)) (fun x y h => reqT_skip HX.out (fun hh => hh HOP.out a0 HA0.out hxa) x y h))
                        clear hxa IK
                        go_wp2_with fail
                        go_quiet (fail)
                        go_wp2
                        exact ⟨⟨z + 1, by omega, by simp, Lib.hid (HK3.out.drewN _), Lib.hid (IC.out.drewN _)⟩, by simp [intOf]; omega⟩
                      · have t9 : ((zx : Int) != a0) = true := by simp [hxa]
                        have HS := Lib.hid (show Sall r (zo : Int) (zx : Int) from .inl ⟨q, c, HCK.out, List.mem_of_getElem? HO.out, .inl ⟨HLB.out, fun _ a ha => by rw [HA0.out] at ha; injection ha with ha; rw [← ha]; exact hxa⟩⟩)
                        clear hxa
                        go_wp2_with fail
                        go_quiet (fail)
                        have q3 : (wr.drewN nq).cell? _ = _ := d3
                        have qo : (wr.drewN nq).cell? _ = _ := hco
                        have ql : (wr.drewN nq).cell? _ = _ := hcl
                        have qx : (wr.drewN nq).cell? _ = _ := hcx
                        have qy : gk < (wr.drewN nq).heap.size := y3
                        have IKq := Lib.hid (IK.out.drewN' nq)
                        have ICq := Lib.hid (IC.out.drewN nq)
                        generalize wr.drewN nq = wq at q3 qo ql qx qy IKq ICq ⊢
                        clear d0 d1 d2 d3 d4 hco hcl hcx y3 IK IC HBr2
                        go_wp2_with fail
                        have IKd := Lib.hid (show RK r k _ w1 gC _ gs (wq.drew) from IKq.out.drew')
                        have ICd := Lib.hid (show Blk (wq.drew) gk 48 _ from ICq.out.drew)
                        go_still_tail 12, (by kernel_rfl)
                        change wpList _ _ _ _ _ (wq.drew)
                        generalize wq.drew = wd at IKd ICd ⊢
                        clear IKq ICq
                        go_wp2_with fail
                        (with_reducible refine (put_rk r k _ w1 gC _ gs zo zx _ IKd.out hzo hzx HS.out).mono ?_)
                        rintro en w6 ⟨rfl, hrk, hkb⟩
                        have HKX := Lib.hid (hrk (ReqT r q c j (zo : Int) p (z + 1)) (fun x y h => reqT_put HX.out x y h))
                        have HCX := Lib.hid (blk_put ICd.out hkb IKd.out.bools (by decide))
                        clear hrk hkb IKd ICd
                        go_wp2
                        exact ⟨⟨z + 1, by omega, by simp, HKX, HCX⟩, by simp [intOf]; omega⟩
                    · have t7 : (c.op != 272) = true := by simp [hop]
                      have HS := Lib.hid (show Sall r (zo : Int) (zx : Int) from .inl ⟨q, c, HCK.out, List.mem_of_getElem? HO.out, .inl ⟨HLB.out, fun h => absurd h hop⟩⟩)
                      clear hop
                      go_wp2_with fail
                      go_quiet (fail)
                      have q3 : (wr.drewN nq).cell? _ = _ := d3
                      have qo : (wr.drewN nq).cell? _ = _ := hco
                      have ql : (wr.drewN nq).cell? _ = _ := hcl
                      have qx : (wr.drewN nq).cell? _ = _ := hcx
                      have qy : gk < (wr.drewN nq).heap.size := y3
                      have IKq := Lib.hid (IK.out.drewN' nq)
                      have ICq := Lib.hid (IC.out.drewN nq)
                      generalize wr.drewN nq = wq at q3 qo ql qx qy IKq ICq ⊢
                      clear d0 d1 d2 d3 d4 hco hcl hcx y3 IK IC HBr2
                      go_wp2_with fail
                      have IKd := Lib.hid (show RK r k _ w1 gC _ gs (wq.drew) from IKq.out.drew')
                      have ICd := Lib.hid (show Blk (wq.drew) gk 48 _ from ICq.out.drew)
                      go_still_tail 12, (by kernel_rfl)
                      change wpList _ _ _ _ _ (wq.drew)
                      generalize wq.drew = wd at IKd ICd ⊢
                      clear IKq ICq
                      go_wp2_with fail
                      (with_reducible refine (put_rk r k _ w1 gC _ gs zo zx _ IKd.out hzo hzx HS.out).mono ?_)
                      rintro en w6 ⟨rfl, hrk, hkb⟩
                      have HKX := Lib.hid (hrk (ReqT r q c j (zo : Int) p (z + 1)) (fun x y h => reqT_put HX.out x y h))
                      have HCX := Lib.hid (blk_put ICd.out hkb IKd.out.bools (by decide))
                      clear hrk hkb IKd ICd
                      go_wp2
                      exact ⟨⟨z + 1, by omega, by simp, HKX, HCX⟩, by simp [intOf]; omega⟩
                  · have t5 : decide ((z : Int) < m) = false := by simp; omega
                    have HK3 := Lib.hid (IK.out.weak (Req' := ReqZ r q c j (zo : Int) 0) (fun x y h => reqT_done (by rw [HM.out]; omega) HPS.out.2 x y h))
                    clear IK
                    go_wp2_with fail
                    clear d0 d1 d2 d3 d4 y3 hcl hb HBr2
                    go_loopw [14] (fun i wr => ∃ z : Nat, z ≤ mo ∧ i = .int .i64 z ∧ Hid (RK r k (ReqZ r q c j (zo : Int) z) w1 gC (.slice Av2 k cv2) gs wr) ∧ Hid (Blk wr gk 48 #[.int .i64 c.op, .int .u64 (c.n : Int), .slice pA ma pc, .slice qA mo qc, .slice tA c.to.length tc])) (fun i _ => mo - (intOf i).toNat)
                    case atStart => exact ⟨0, by omega, rfl, HK3, IC⟩
                    case round =>
                      as_aux_lemma =>
                      clear HK3 IC
                      obtain ⟨z2, hz2, rfl, IK, IC⟩ := hrel
                      obtain ⟨d0, d1, d2, d3, d4⟩ := blk5 IC.out
                      have y3 := IC.out.lt
                      have HBr2 := Lib.hid (HB.out.trans (IK.out.bel.mono HB.out.size))
                      by_cases hzo2 : z2 < mo
                      · have t7 : decide ((z2 : Int) < mo) = true := by simp; omega
                        have t8 : (z2 : Int) < mo := by omega
                        obtain ⟨x, hx⟩ : ∃ x, c.outs[z2]? = some x := ⟨_, List.getElem?_eq_getElem (by rw [HMO.out]; exact hzo2)⟩
                        have hxr := hpl.out.2.1 x (List.mem_of_getElem? hx)
                        rw [HP.out] at hxr
                        obtain ⟨zx, rfl⟩ : ∃ z : Nat, x = z := ⟨x.toNat, by omega⟩
                        have hzx : zx < k := by omega
                        have hh := HOI.out.below HBr2.out (Nat.le_refl _)
                        obtain ⟨ob, oo, rfl, hob, hco⟩ := hh.cell HO.out
                        obtain ⟨ob', oo', hae, hob', hcx⟩ := hh.cell hx
                        injection hae with hae
                        injection hae with e1 e2
                        subst e1
                        subst e2
                        have HX := Lib.hid hx
                        have HS := Lib.hid (show Sall r (zo : Int) (zx : Int) from .inl ⟨q, c, HCK.out, List.mem_of_getElem? HO.out, .inr (List.mem_of_getElem? hx)⟩)
                        clear hx hxr hh
                        go_wp2_with fail
                        have IKd := Lib.hid (show RK r k _ w1 gC _ gs (wr.drew) from IK.out.drew')
                        have ICd := Lib.hid (show Blk (wr.drew) gk 48 _ from IC.out.drew)
                        go_still_tail 10, (by kernel_rfl)
                        change wpList _ _ _ _ _ (wr.drew)
                        generalize wr.drew = wd at IKd ICd ⊢
                        clear IK IC
                        go_wp2_with fail
                        (with_reducible refine (put_rk r k _ w1 gC _ gs zo zx _ IKd.out hzo hzx HS.out).mono ?_)
                        rintro en w6 ⟨rfl, hrk, hkb⟩
                        have HKX := Lib.hid (hrk (ReqZ r q c j (zo : Int) (z2 + 1)) (fun x y h => reqZ_put HX.out x y h))
                        have HCX := Lib.hid (blk_put ICd.out hkb IKd.out.bools (by decide))
                        clear hrk hkb IKd ICd
                        go_wp2
                        exact ⟨⟨z2 + 1, by omega, by simp, HKX, HCX⟩, by simp [intOf]; omega⟩
                      · have t7 : decide ((z2 : Int) < mo) = false := by simp; omega
                        have HK4 := Lib.hid (IK.out.weak (Req' := ReqO r q c (j + 1)) (fun x y h => reqZ_done HO.out (by rw [HMO.out]; omega) x y h))
                        clear IK
                        go_wp2
                        exact ⟨⟨j + 1, by omega, by simp, HK4, IC⟩, by simp [intOf]; omega⟩
              · have t3 : decide ((j : Int) < mo) = false := by simp; omega
                have HK2 := Lib.hid (IK.out.weak (Req' := ReqC r (q + 1)) (fun x y h => reqC_next HCK.out (by rw [HMO.out]; omega) x y h))
                clear IK
                go_wp2
                exact ⟨⟨q + 1, by omega, by simp, HK2⟩, by simp [intOf]; omega⟩
          · as_aux_lemma =>
            have t1 : decide ((q : Int) < n) = false := by simp; omega
            have hqn2 : q = n := by omega
            subst hqn2
            have HBr := Lib.hid (HB.out.trans (IK.out.bel.mono HB.out.size))
            have KEr := KE1.out.below IK.out.bel KE1.out.lt
            obtain ⟨e0, e1, e2, e3, e4⟩ := blk5 KEr
            have y2 := KEr.lt
            have HK1 := Lib.hid (IK.out.weak (Req' := ReqP r 0) (fun x y h => by rw [← HN.out]; exact reqP_start x y h))
            clear KEr KRr IK
            go_wp2_with fail
            (with_reducible refine (rAhead_any e r _ _ _ (HE.out.below HBr.out (Nat.le_refl _)) (HR0.out.below HBr.out (Nat.le_refl _))).mono ?_)
            rintro en w4 (⟨hnc, _, _⟩ | ⟨_, v4, rfl, hT4, hb4⟩)
            · exact absurd HC.out hnc
            obtain ⟨wb, hwb⟩ : ∃ wb, wr.heap.size = wb := ⟨_, rfl⟩
            rw [HN.out, hwb] at hT4
            obtain ⟨A4, c4, rfl⟩ := hT4.shape
            have HT4 := Lib.hid hT4
            have HK2 := Lib.hid (HK1.out.keep hb4)
            obtain ⟨u, hu⟩ := hT4.get hn1
            have HU := Lib.hid hu
            have huz := hu.small HC.out (fun x hx => hx.range HC.out)
            obtain ⟨mu, hmu⟩ : ∃ m, u.length = m := ⟨_, rfl⟩
            rw [hmu] at huz
            have HMU := Lib.hid hmu
            have hpr := Lib.hid (fun x (hx : x ∈ r.params) => within_mem HC.out.pin hx)
            rw [HP.out] at hpr
            clear hT4 hb4 hu hmu e0 e1 e2 e3 e4 r0 r1 r2 r3 r4 y1 y2 HK1 HBr
            go_wp2
            go_loopw [17] (fun i wr => ∃ j : Nat, j ≤ np ∧ i = .int .i64 j ∧ Hid (RK r k (ReqP r j) w1 gC (.slice Av2 k cv2) gs wr) ∧ Hid (Told wr wb (.slice A4 q c4) q (Live r))) (fun i _ => np - (intOf i).toNat)
            case atStart => exact ⟨0, by omega, rfl, HK2, HT4⟩
            case round =>
              as_aux_lemma =>
              clear HK2 HT4
              obtain ⟨j, hj, rfl, IK, IT⟩ := hrel
              have KRr := KR1.out.below IK.out.bel KR1.out.lt
              obtain ⟨r0, r1, r2, r3, r4⟩ := blk5 KRr
              have y1 := KRr.lt
              clear KRr
              by_cases hjn : j < np
              · have t3 : decide ((j : Int) < np) = true := by simp; omega
                have t4 : (j : Int) < np := by omega
                obtain ⟨a, ha⟩ : ∃ a, r.params[j]? = some a := ⟨_, List.getElem?_eq_getElem (by rw [HNP.out]; exact hjn)⟩
                have har := hpr.out a (List.mem_of_getElem? ha)
                obtain ⟨za, rfl⟩ : ∃ z : Nat, a = z := ⟨a.toNat, by omega⟩
                have hza : za < k := by omega
                have HA := Lib.hid ha
                have HK3 := Lib.hid (IK.out.weak (Req' := ReqQ r j (za : Int) 0) (fun x y h => reqQ_start x y h))
                clear ha har IK
                go_wp2_with fail
                clear r0 r1 r2 r3 r4 y1
                go_loopw [18] (fun i wr => ∃ z : Nat, z ≤ np ∧ i = .int .i64 z ∧ Hid (RK r k (ReqQ r j (za : Int) z) w1 gC (.slice Av2 k cv2) gs wr) ∧ Hid (Told wr wb (.slice A4 q c4) q (Live r))) (fun i _ => np - (intOf i).toNat)
                case atStart => exact ⟨0, by omega, rfl, HK3, IT⟩
                case round =>
                  as_aux_lemma =>
                  clear HK3 IT
                  obtain ⟨z, hz, rfl, IK, IT⟩ := hrel
                  have KRr := KR1.out.below IK.out.bel KR1.out.lt
                  obtain ⟨r0, r1, r2, r3, r4⟩ := blk5 KRr
                  have y1 := KRr.lt
                  have HBr2 := Lib.hid (HB.out.trans (IK.out.bel.mono HB.out.size))
                  clear KRr
                  by_cases hzn : z < np
                  · have t5 : decide ((z : Int) < np) = true := by simp; omega
                    have t6 : (z : Int) < np := by omega
                    obtain ⟨x, hx⟩ : ∃ x, r.params[z]? = some x := ⟨_, List.getElem?_eq_getElem (by rw [HNP.out]; exact hzn)⟩
                    have hxr := hpr.out x (List.mem_of_getElem? hx)
                    obtain ⟨zx, rfl⟩ : ∃ z : Nat, x = z := ⟨x.toNat, by omega⟩
                    have hzx : zx < k := by omega
                    have hh := HPI.out.below HBr2.out (Nat.le_refl _)
                    obtain ⟨ob, oo, rfl, hob, hco⟩ := hh.cell HA.out
                    obtain ⟨ob', oo', hae, hob', hcx⟩ := hh.cell hx
                    injection hae with hae
                    injection hae with e1 e2
                    subst e1
                    subst e2
                    have HX := Lib.hid hx
                    have HS := Lib.hid (show Sall r (za : Int) (zx : Int) from .inr ⟨List.mem_of_getElem? HA.out, .inl (List.mem_of_getElem? hx)⟩)
                    clear hx hxr hh
                    go_wp2_with fail
                    have IKd := Lib.hid (show RK r k _ w1 gC _ gs (wr.drew) from IK.out.drew')
                    have ITd := Lib.hid (show Told (wr.drew) wb _ q (Live r) from IT.out.drew')
                    go_still_tail 10, (by kernel_rfl)
                    change wpList _ _ _ _ _ (wr.drew)
                    generalize wr.drew = wd at IKd ITd ⊢
                    clear IK IT
                    go_wp2_with fail
                    (with_reducible refine (put_rk r k _ w1 gC _ gs za zx _ IKd.out hza hzx HS.out).mono ?_)
                    rintro en w6 ⟨rfl, hrk, hkb⟩
                    have HKX := Lib.hid (hrk (ReqQ r j (za : Int) (z + 1)) (fun x y h => reqQ_put HX.out x y h))
                    have HTX := Lib.hid (ITd.out.kept hkb IKd.out.bools)
                    clear hrk hkb IKd ITd
                    go_wp2
                    exact ⟨⟨z + 1, by omega, by simp, HKX, HTX⟩, by simp [intOf]; omega⟩
                  · have t5 : decide ((z : Int) < np) = false := by simp; omega
                    have HK4 := Lib.hid (IK.out.weak (Req' := ReqU r j (za : Int) u 0) (fun x y h => reqU_start (by rw [HNP.out]; omega) x y h))
                    clear IK
                    go_wp2_with fail
                    clear r0 r1 r2 r3 r4 y1 HBr2
                    go_loopw [19] (fun i wr => ∃ z : Nat, z ≤ mu ∧ i = .int .i64 z ∧ Hid (RK r k (ReqU r j (za : Int) u z) w1 gC (.slice Av2 k cv2) gs wr) ∧ Hid (Told wr wb (.slice A4 q c4) q (Live r))) (fun i _ => mu - (intOf i).toNat)
                    case atStart => exact ⟨0, by omega, rfl, HK4, IT⟩
                    case round =>
                      as_aux_lemma =>
                      clear HK4 IT
                      obtain ⟨z2, hz2, rfl, IK, IT⟩ := hrel
                      have KRr := KR1.out.below IK.out.bel KR1.out.lt
                      obtain ⟨r0, r1, r2, r3, r4⟩ := blk5 KRr
                      have y1 := KRr.lt
                      have HBr2 := Lib.hid (HB.out.trans (IK.out.bel.mono HB.out.size))
                      obtain ⟨b, o, B, kB, rfl, hb, hcl, hir⟩ := IT.out.first hn1 HU.out
                      rw [HMU.out] at hcl hir
                      rw [Nat.add_zero] at hcl
                      have HIR := Lib.hid hir
                      have t9 : (0 : Int) < (q : Int) := by omega
                      clear hir KRr
                      by_cases hzu : z2 < mu
                      · have t7 : decide ((z2 : Int) < mu) = true := by simp; omega
                        have t8 : (z2 : Int) < mu := by omega
                        obtain ⟨x, hx⟩ : ∃ x, u[z2]? = some x := ⟨_, List.getElem?_eq_getElem (by rw [HMU.out]; exact hzu)⟩
                        have hlv := (HU.out.2 x).1 (List.mem_of_getElem? hx)
                        have hxr := hlv.range HC.out
                        rw [HP.out] at hxr
                        obtain ⟨zx, rfl⟩ : ∃ z : Nat, x = z := ⟨x.toNat, by omega⟩
                        have hzx : zx < k := by omega
                        obtain ⟨ob, oo, rfl, hob, hco⟩ := (HPI.out.below HBr2.out (Nat.le_refl _)).cell HA.out
                        obtain ⟨xb, xo, rfl, hxb, hcx⟩ := HIR.out.cell hx
                        have HX := Lib.hid hx
                        have HS := Lib.hid (show Sall r (za : Int) (zx : Int) from .inr ⟨List.mem_of_getElem? HA.out, .inr hlv⟩)
                        clear hx hxr hlv
                        go_wp2_with fail
                        have IKd := Lib.hid (show RK r k _ w1 gC _ gs (wr.drew) from IK.out.drew')
                        have ITd := Lib.hid (show Told (wr.drew) wb _ q (Live r) from IT.out.drew')
                        go_still_tail 11, (by kernel_rfl)
                        change wpList _ _ _ _ _ (wr.drew)
                        generalize wr.drew = wd at IKd ITd ⊢
                        clear IK IT
                        go_wp2_with fail
                        (with_reducible refine (put_rk r k _ w1 gC _ gs za zx _ IKd.out hza hzx HS.out).mono ?_)
                        rintro en w6 ⟨rfl, hrk, hkb⟩
                        have HKX := Lib.hid (hrk (ReqU r j (za : Int) u (z2 + 1)) (fun x y h => reqU_put HX.out x y h))
                        have HTX := Lib.hid (ITd.out.kept hkb IKd.out.bools)
                        clear hrk hkb IKd ITd
                        go_wp2
                        exact ⟨⟨z2 + 1, by omega, by simp, HKX, HTX⟩, by simp [intOf]; omega⟩
                      · have t7 : decide ((z2 : Int) < mu) = false := by simp; omega
                        have HK5 := Lib.hid (IK.out.weak (Req' := ReqP r (j + 1)) (fun x y h => reqU_done HA.out (by rw [HMU.out]; omega) HU.out.2 x y h))
                        clear IK
                        go_wp2
                        exact ⟨⟨j + 1, by omega, by simp, HK5, IT⟩, by simp [intOf]; omega⟩
              · as_aux_lemma =>
                have t3 : decide ((j : Int) < np) = false := by simp; omega
                obtain ⟨T, hkm, hrs⟩ := IK.out
                have HD := Lib.hid (fun a b (ha : a < k) (hb : b < k) => hrs.done HC.out (fun x y h => reqP_all (by rw [HNP.out]; omega) x y h) ha hb)
                have HKM := Lib.hid hkm
                have HS0 := Lib.hid (TolS.start wr (fun i => Clashes r (i : Int)))
                have HBr2 := Lib.hid (HB.out.trans (IK.out.bel.mono HB.out.size))
                clear hkm hrs IK IT
                go_wp2
                clear r0 r1 r2 r3 r4 y1
                obtain ⟨w5, rfl⟩ : ∃ w5 : World, w5 = wr := ⟨_, rfl⟩
                go_loopw [20, 21] (fun v i wr => ∃ z : Nat, z ≤ k ∧ i = .int .i64 z ∧ Hid (TolS w5 v z (fun i => Clashes r (i : Int)) wr)) (fun _ i _ => k - (intOf i).toNat)
                case atStart => exact ⟨0, by omega, rfl, HS0⟩
                case round =>
                  as_aux_lemma =>
                  clear HS0
                  obtain ⟨z, hz, rfl, IS⟩ := hrel
                  obtain ⟨Av5, cv5, hv⟩ := IS.out.shape
                  subst hv
                  have hkm := HKM.out.keep IS.out.below
                  have c0 := hkm.c.cell 0
                  simp at c0
                  have y4 := hkm.c.lt
                  have KRr := KR1.out.below hkm.b KR1.out.lt
                  obtain ⟨r0, r1, r2, r3, r4⟩ := blk5 KRr
                  have y1 := KRr.lt
                  clear KRr
                  by_cases hzk : z < k
                  · have t5 : decide ((z : Int) < k) = true := by simp; omega
                    have t6 : (z : Int) < k := by omega
                    obtain ⟨b, o, C, kC, rfl, hb, hc, hs⟩ := hkm.t.tb.row hzk
                    have HS := Lib.hid hs
                    clear hs hkm
                    go_wp2_with fail
                    (with_reducible refine (list_any _ k _ (T z) _ HS.out hP4).mono ?_)
                    rintro en w3 ⟨u5, p, rfl, ho, hpl, hset, hb3⟩
                    have HST := Lib.hid (show IsSet p (Clashes r (z : Int)) from row_live (e := e) (r := r) hset (fun q5 hq5 => HD.out z q5 hzk hq5) (fun x hx => by have := hx.range HC.out; rw [HP.out] at this; exact this))
                    have IS1 := Lib.hid (IS.out.keep hb3)
                    have HO := Lib.hid (own_mono ho IS.out.below.size)
                    obtain ⟨q5, hq5⟩ : ∃ q, p.length = q := ⟨_, rfl⟩
                    obtain ⟨A1, c1, e1, _⟩ := own_shape ho
                    subst e1
                    rw [hq5] at ho HO hpl ⊢
                    have HQ := Lib.hid hq5
                    have HO2 := Lib.hid (own_alloc HO.out (.cells #[.slice A1 q5 c1] 23))
                    have IS2 := Lib.hid (IS1.out.keep ((Below.refl _ _).alloc (Nat.le_refl _) (.cells #[.slice A1 q5 c1] 23)))
                    have hz5 := IS1.out.below.size
                    obtain ⟨vs5, PP, hvs, hPP⟩ := IS2.out.open
                    have HVS := Lib.hid hvs
                    have HPP := Lib.hid hPP
                    clear ho hset hb3 hq5 hvs hPP IS2 IS1 c0 y4 r0 r1 r2 r3 r4 y1 hc hb
                    go_wp2_with (at_builtin; refine append_at _ rfl (.tmp 178) (.tmp 185) 43 rfl w5.heap.size 23 (.slice none 0 0) 1 24 Tryz.underlying43 info_ints rfl (by omega) (.slice Av5 z cv5) z vs5 rfl HVS.out (some ⟨w3.heap.size, 0, none⟩) 1 1 [.slice A1 q5 c1] rfl (Blk.srcAll (cs := #[.slice A1 q5 c1]) (Blk.newAt _ _ _ rfl) rfl) (one_slice _ _ _) (by unfold maxLen; omega) (by omega) (by simp; omega) ?_)
                    rintro v' w' g1 g2 g3 _
                    have IS3 := Lib.hid (TolS.push2 (u := .slice A1 q5 c1) (p := p) HVS.out HPP.out (by rw [HQ.out]; exact HO2.out) HST.out g1 g2)
                    clear g1 g2 g3
                    go_wp2
                    exact ⟨⟨z + 1, by omega, by simp, IS3⟩, by simp [intOf]; omega⟩
                  · have t5 : decide ((z : Int) < k) = false := by simp; omega
                    have hzk2 : z = k := by omega
                    subst hzk2
                    clear hkm
                    go_wp2
                    go_ret2
                    exact .inr ⟨HC.out, _, rfl, by rw [HPT.out]; exact IS.out.told.mono HBr2.out.size, HBr2.out.trans (IS.out.below.mono HBr2.out.size)⟩
end Go.Proofs.YtgmapikcpnffhaaGreat
