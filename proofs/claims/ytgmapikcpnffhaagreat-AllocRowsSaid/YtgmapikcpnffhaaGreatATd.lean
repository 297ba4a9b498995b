/-
 The document's Told, rows compared, and told rows read as such.
 Conditions: none.
-/
import Derived.BigRegion
import Derived.Deep.DeepCutAuto
import Derived.Test.YtgmapikcpnffhaaGreatARu
import Derived.Test.YtgmapikcpnffhaaGreatLivAl
namespace Go.Bk
open Go
/-- one of two operations may come up -/
theorem wpAnyD_two {P : Program} {Q : Exit → Act → World → Prop} {md : Region.Mode} {S1 S2 : World → Prop} {ap : Nat} {l : List Oper} {i j : Nat} {o o' : Oper} {fuel : Nat} {listed : Array Bool} {a : Act} {w : World} (hr : Region.ready md l.toArray listed = [i, j]) (ho : l[i]? = some o) (ho' : l[j]? = some o')
  (h : ∀ K' : Act → World → Prop, Shut (∀ a w, SD S1 S2 ap (listed.setIfInBounds i true) w → (SD S1 S2 ap (listed.setIfInBounds i true) w → wpAnyD P md l.toArray Q S1 S2 ap fuel (listed.setIfInBounds i true) a w) → K' a w) → if Region.wanted o (yielded l.toArray a.tmps) = true then Oper.wp P o a w K' Q else K' (a.put o.dst undef) w)
  (h' : ∀ K' : Act → World → Prop, Shut (∀ a w, SD S1 S2 ap (listed.setIfInBounds j true) w → (SD S1 S2 ap (listed.setIfInBounds j true) w → wpAnyD P md l.toArray Q S1 S2 ap fuel (listed.setIfInBounds j true) a w) → K' a w) → if Region.wanted o' (yielded l.toArray a.tmps) = true then Oper.wp P o' a w K' Q else K' (a.put o'.dst undef) w) :
  wpAnyD P md l.toArray Q S1 S2 ap (fuel + 1) listed a w :=
 ⟨fun h0 => (by rw [h0] at hr; cases hr), fun k hk => by
  rw [hr] at hk
  simp only [List.mem_cons, List.not_mem_nil, or_false] at hk
  rcases hk with rfl | rfl
  ·exact wpOp_step (by simpa using ho) (fun K' hK => h K' (fun a w h1 h2 => hK a w ⟨h1, h2 h1⟩))
  ·exact wpOp_step (by simpa using ho') (fun K' hK => h' K' (fun a w h1 h2 => hK a w ⟨h1, h2 h1⟩))⟩
end Go.Bk
namespace Go.Proofs.YtgmapikcpnffhaaGreat
open Go.RowKit Go.Bk Go.Bk.Liv
set_option linter.unusedVariables false
set_option linter.unusedSimpArgs false
/-- an instruction of the call's own, but for what it goes to -/
def CodeR (w0 w : World) (base : Nat) (cs : List Value) (c : CodeD) : Prop := ∃ a b d, cs = [.int .i64 c.op, .int .u64 (c.n : Int), a, b, d] ∧ c.ok ∧ w.ownsRow base 3 1 a c.args.length (i64s c.args) ∧ w.ownsRow base 3 1 b c.outs.length (i64s c.outs) ∧ Ints w0 d c.to
def CodesR (w0 w : World) (base : Nat) (v : Value) (C : List CodeD) : Prop := ∃ vs : List (List Value), w.ownsRow base 48 5 v C.length vs.flatten ∧ vs.length = C.length ∧ ∀ (i : Nat) cs c, vs[i]? = some cs → C[i]? = some c → CodeR w0 w base cs c
theorem CodeR.grown {w0 w w' : World} {base : Nat} {cs : List Value} {c : CodeD} {r : Option Nat} (h : CodeR w0 w base cs c) (hg : w.grownBy w' r) (hr : ∀ g cs, Blk w g 3 cs → r ≠ some g) : CodeR w0 w' base cs c := by
 obtain ⟨a, b, d, e, h0, h1, h2, h3⟩ := h
 have k : ∀ {v : Value} {n : Nat} {xs : List Value}, w.ownsRow base 3 1 v n xs → w'.ownsRow base 3 1 v n xs := fun ho => own_grown ho hg (fun g hgg => by
  obtain ⟨cur, hb⟩ := own_blk ho hgg
  exact hr g cur hb)
 exact ⟨a, b, d, e, h0, k h1, k h2, h3⟩
theorem CodesR.nil (w0 w : World) (base : Nat) : CodesR w0 w base (.slice none 0 0) [] := ⟨[], World.ownsRow_nil _ _ _ _, rfl, fun i cs c h => by simp at h⟩
theorem CodesR.below {w0 w w' : World} {base : Nat} {v : Value} {C : List CodeD} (h : CodesR w0 w base v C) (hb : Below w.heap.size w w') : CodesR w0 w' base v C := by
 obtain ⟨vs, h1, h2, h3⟩ := h
 exact ⟨vs, own_below h1 hb (Nat.le_refl _), h2, fun i cs c q1 q2 => (h3 i cs c q1 q2).grown (below_grownBy hb) (fun _ _ _ => by simp)⟩
theorem CodesR.push {w0 w w' : World} {base n : Nat} {v v' : Value} {C : List CodeD} {cs : List Value} {c : CodeD} {vs : List (List Value)} (h1 : w.ownsRow base 48 5 v C.length vs.flatten) (h2 : vs.length = C.length) (h3 : ∀ (i : Nat) cs c, vs[i]? = some cs → C[i]? = some c → CodeR w0 w base cs c)
  (hc : CodeR w0 w base cs c) (ho : w'.ownsRow base 48 5 v' (C.length + 1) (vs.flatten ++ cs)) (hg : w.grownBy w' v.ownBlock) : CodesR w0 w' base v' (C ++ [c]) := by
 have hr : ∀ g cs, Blk w g 3 cs → v.ownBlock ≠ some g := fun g cs hb => own_ne h1 hb (by decide)
 refine ⟨vs ++ [cs], by rw [List.length_append, List.flatten_append]; simpa using ho, by simp [h2], fun i u x hu hx => ?_⟩
 by_cases hi : i < vs.length
 ·rw [List.getElem?_append_left hi] at hu
  rw [List.getElem?_append_left (by omega)] at hx
  exact (h3 i u x hu hx).grown hg hr
 ·rw [List.getElem?_append_right (by omega)] at hu
  rw [List.getElem?_append_right (by omega)] at hx
  have h0 : i - vs.length = 0 := by
   have := (List.getElem?_eq_some_iff.1 hu).1
   simp at this
   omega
  rw [h0] at hu
  rw [← h2, h0] at hx
  simp at hu hx
  subst hu
  subst hx
  exact hc.grown hg hr
theorem CodeR.other {w0 w : World} {base g i : Nat} {cs : List Value} {c : CodeD} {t : TypeId} {ks : Array Value} (h : CodeR w0 w base cs c) (hk : Blk w g t ks) (ht : 3 ≠ t) (u : Value) : CodeR w0 (w.setCell ⟨g, i, none⟩ u) base cs c := by
 obtain ⟨a, b, d, e, h0, h1, h2, h3⟩ := h
 exact ⟨a, b, d, e, h0, own_other h1 (own_ne h1 hk ht), own_other h2 (own_ne h2 hk ht), h3⟩
theorem CodesR.other {w0 w : World} {base g i : Nat} {v : Value} {C : List CodeD} {ks : Array Value} (h : CodesR w0 w base v C) (hk : Blk w g 31 ks) (u : Value) : CodesR w0 (w.setCell ⟨g, i, none⟩ u) base v C := by
 obtain ⟨vs, h1, h2, h3⟩ := h
 exact ⟨vs, own_other h1 (own_ne h1 hk (by decide)), h2, fun j cs c q1 q2 => (h3 j cs c q1 q2).other hk (by decide) u⟩
theorem CodesR.mono {w0 w : World} {base b2 : Nat} {v : Value} {C : List CodeD} (h : CodesR w0 w base v C) (hb : b2 ≤ base) : CodesR w0 w b2 v C := by
 obtain ⟨vs, h1, h2, h3⟩ := h
 refine ⟨vs, own_mono h1 hb, h2, fun i cs c q1 q2 => ?_⟩
 obtain ⟨a, b, d, e, k0, k1, k2, k3⟩ := h3 i cs c q1 q2
 exact ⟨a, b, d, e, k0, own_mono k1 hb, own_mono k2 hb, k3⟩
theorem CodesR.row {w0 w : World} {base : Nat} {v : Value} {C : List CodeD} (h : CodesR w0 w base v C) : ∃ xs, w.ownsRow base 48 5 v C.length xs := by
 obtain ⟨vs, h1, _⟩ := h
 exact ⟨_, h1⟩
theorem CodesR.other5 {w0 w : World} {base g : Nat} {v : Value} {C : List CodeD} {x0 x1 x2 x3 x4 : Value} (h : CodesR w0 w base v C) (hk : Blk w g 31 #[x0, x1, x2, x3, x4]) (a b c d e : Value) : CodesR w0 (((((w.setCell ⟨g, 0, none⟩ a).setCell ⟨g, 1, none⟩ b).setCell ⟨g, 2, none⟩ c).setCell ⟨g, 3, none⟩ d).setCell ⟨g, 4, none⟩ e) base v C :=
 ((((h.other hk a).other (blk_setSame hk 0 a) b).other (blk_setSame (blk_setSame hk 0 a) 1 b) c).other (blk_setSame (blk_setSame (blk_setSame hk 0 a) 1 b) 2 c) d).other (blk_setSame (blk_setSame (blk_setSame (blk_setSame hk 0 a) 1 b) 2 c) 3 d) e
/-- the row under way -/
def RtB (w0 w1 : World) (gb : Nat) (vp vq : Value) (r : RowD) (hs : List Int) (T : Int) (d : Value) (C : List CodeD) (wr : World) : Prop := ∃ p, Blk wr gb 31 #[vp, vq, .int .i64 T, p, d] ∧ wr.ownsRow w1.heap.size 3 1 p r.params.length (i64s (toldL hs r.params)) ∧ CodesR w0 wr w1.heap.size d C ∧ Below w1.heap.size w1 wr ∧ w1.heap.size ≤ gb
theorem RtB.mk1 {w0 w1 wC : World} {r : RowD} {hs : List Int} {vp vq p : Value} (oC : wC.ownsRow w1.heap.size 3 1 p r.params.length (i64s (toldL hs r.params))) (sC : Below w1.heap.size w1 wC) :
  RtB w0 w1 wC.heap.size vp vq r hs 16 (.slice none 0 0) [] (wC.alloc (.cells #[vp, vq, .int .i64 16, p, .slice none 0 0] 31)) :=
 ⟨p, Blk.new _ _ _, own_alloc oC _, CodesR.nil _ _ _, sC.alloc sC.size _, sC.size⟩
theorem RtB.mk2 {w0 w1 wC : World} {r : RowD} {hs : List Int} {vp vq p : Value} {gz : Nat} {c0 c1 c2 c3 c4 : Value} (oC : wC.ownsRow w1.heap.size 3 1 p r.params.length (i64s (toldL hs r.params))) (sC : Below w1.heap.size w1 wC)
  (kz : Blk wC gz 31 #[c0, c1, c2, c3, c4]) (hz : w1.heap.size ≤ gz) :
  RtB w0 w1 gz vp vq r hs 16 (.slice none 0 0) [] (((((wC.setCell ⟨gz, 0, none⟩ vp).setCell ⟨gz, 1, none⟩ vq).setCell ⟨gz, 2, none⟩ (.int .i64 16)).setCell ⟨gz, 3, none⟩ p).setCell ⟨gz, 4, none⟩ (.slice none 0 0)) :=
 ⟨p, blk_set5 kz _ _ _ _ _, own5 oC kz _ _ _ _ _, CodesR.nil _ _ _, below5 sC hz _ _ _ _ _, hz⟩
theorem RtB.below {w0 w1 w w' : World} {gb : Nat} {vp vq : Value} {r : RowD} {hs : List Int} {T : Int} {d : Value} {C : List CodeD} (h : RtB w0 w1 gb vp vq r hs T d C w) (hb : Below w.heap.size w w') : RtB w0 w1 gb vp vq r hs T d C w' := by
 obtain ⟨p, kb, op, oc, hw, hg⟩ := h
 exact ⟨p, kb.below hb kb.lt, own_carry1 op hb, oc.below hb, below_step hw hb, hg⟩
theorem RtB.setT {w0 w1 wr : World} {gb : Nat} {vp vq : Value} {r : RowD} {hs : List Int} {T : Int} {d : Value} {C : List CodeD} (h : RtB w0 w1 gb vp vq r hs T d C wr) (T' : Int) : RtB w0 w1 gb vp vq r hs T' d C (wr.setCell ⟨gb, 2, none⟩ (.int .i64 T')) := by
 obtain ⟨p, kb, op, oc, hb, hg⟩ := h
 have hk := blk_setSame kb 2 (.int .i64 T')
 exact ⟨p, by simpa using hk, own_other op (own_ne op kb (by decide)), oc.other kb _, hb.setCell (p := ⟨gb, 2, none⟩) hg _, hg⟩
theorem RtB.push {w0 w1 w w' : World} {gb n : Nat} {vp vq : Value} {r : RowD} {hs : List Int} {T : Int} {d d' p : Value} {C : List CodeD} {cs : List Value} {c : CodeD} {vs : List (List Value)}
  (kb : Blk w gb 31 #[vp, vq, .int .i64 T, p, d]) (op : w.ownsRow w1.heap.size 3 1 p r.params.length (i64s (toldL hs r.params))) (h1 : w.ownsRow w1.heap.size 48 5 d C.length vs.flatten) (h2 : vs.length = C.length) (h3 : ∀ (i : Nat) cs c, vs[i]? = some cs → C[i]? = some c → CodeR w0 w w1.heap.size cs c) (hb : Below w1.heap.size w1 w) (hg : w1.heap.size ≤ gb)
  (hc : CodeR w0 w w1.heap.size cs c) (ho : w'.ownsRow w1.heap.size 48 5 d' (C.length + 1) (vs.flatten ++ cs)) (hgr : w.grownBy w' d.ownBlock) : RtB w0 w1 gb vp vq r hs T d' (C ++ [c]) (w'.setCell ⟨gb, 4, none⟩ d') := by
 have nr : d.ownBlock ≠ some gb := own_ne h1 kb (by decide)
 have ni : ∀ g cs, Blk w g 3 cs → d.ownBlock ≠ some g := fun g cs hk => own_ne h1 hk (by decide)
 have og : ∀ {v : Value} {n : Nat} {xs : List Value}, w.ownsRow w1.heap.size 3 1 v n xs → w'.ownsRow w1.heap.size 3 1 v n xs := fun h => own_grown h hgr (fun g hgg => by
  obtain ⟨cur, hk⟩ := own_blk h hgg
  exact ni g cur hk)
 have kb' := kb.grown hgr nr
 have hk := blk_setSame kb' 4 d'
 exact ⟨p, by simpa using hk, own_other (og op) (own_ne (og op) kb' (by decide)), (CodesR.push (n := n) h1 h2 h3 hc ho hgr).other kb' _, (below_grown hb hgr hb.size (fun j hj => (h1.lt j hj).1)).setCell (p := ⟨gb, 4, none⟩) hg _, hg⟩
theorem code_toldR {w0 w : World} {base : Nat} {hs : List Int} {c : CodeD} {a b d : Value} {o : Obj} {t : TypeId} {x0 x1 : Value} (h0 : c.ok) (oA : w.ownsRow base 3 1 a c.args.length (i64s (toldL hs c.args))) (oB : w.ownsRow base 3 1 b c.outs.length (i64s (toldL hs c.outs))) (oT : Ints w0 d c.to) (_ : Blk (w.alloc o) w.heap.size t #[x0, x1, a, b, d]) :
  CodeR w0 (w.alloc o) base [.int .i64 c.op, .int .u64 (c.n : Int), a, b, d] (toldC hs c) := by
 refine ⟨a, b, d, rfl, h0, ?_, ?_, oT⟩
 ·show (w.alloc o).ownsRow base 3 1 a (toldL hs c.args).length (i64s (toldL hs c.args))
  rw [toldL_len]
  exact own_alloc oA o
 ·show (w.alloc o).ownsRow base 3 1 b (toldL hs c.outs).length (i64s (toldL hs c.outs))
  rw [toldL_len]
  exact own_alloc oB o
theorem structs_at {w : World} {a b x p d : Value} {r : RowD} (h : RowV w (.agg #[a, b, x, p, d]) r) : Structs 5 CodeC w d r.code := by
 obtain ⟨_, _, _, _, e, _, _, _, h7⟩ := h
 injection e with e
 injection e with e
 simp only [List.cons.injEq, and_true] at e
 obtain ⟨rfl, rfl, _, rfl, rfl⟩ := e
 exact h7
/-- what Told answers: the told row, whose type and targets are the row's own -/
def RtPost (w0 : World) (r : RowD) (hs : List Int) (vp vq : Value) (w : World) (en : Ending) (w' : World) : Prop := ∃ p d : Value, en = .returned (.agg #[vp, vq, .int .i64 (topOf hs), p, d]) ∧ w'.ownsRow w.heap.size 3 1 p r.params.length (i64s (toldL hs r.params)) ∧ CodesR w0 w' w.heap.size d (r.code.map (toldC hs)) ∧ Below w.heap.size w w'
set_option maxRecDepth 100000 in
theorem rtold_results (tm : Array Value) (W : World) (gz : Nat) (a b c d e : Value) (h4 : tm.getD 4 undef = .pointer (some ⟨gz, 0, none⟩)) (k : Blk W gz 31 #[a, b, c, d, e]) :
  (results Tryz.f16 tm).run Tryz.prog W = .ok (.agg #[a, b, c, d, e]) W := by
 obtain ⟨z0, z1, z2, z3, z4⟩ := blk5 k
 simp only [Array.getD_eq_getD_getElem?] at h4
 simp [results, Tryz.results16, go_sem, h4, z0, z1, z2, z3, z4]
theorem step_code {ops : Array Oper} {o : Oper} {a : Act} {w : World} {K : Act → World → Prop} {Q : Exit → Act → World → Prop} {E : Prop} (hgd : o.guard = none) (x : Operand) (ho : o.op = .buildSlice 29 1 #[(0, x)]) {v0 v1 v2 v3 v4 : Value} (hx : a.eval x = .agg #[v0, v1, v2, v3, v4])
  (h : K (a.put o.dst (.slice (some ⟨w.heap.size, 0, none⟩) 1 1)) (w.alloc (.cells #[v0, v1, v2, v3, v4] 48))) : if Region.wanted o (yielded ops a.tmps) = true then Oper.wp Tryz.prog o a w K Q else E := by
 have hw : Region.wanted o (yielded ops a.tmps) = true := by simp [Region.wanted, hgd]
 rw [if_pos hw]
 have he : (execOp a.eval o).run Tryz.prog w = .ok (.value (.slice (some ⟨w.heap.size, 0, none⟩) 1 1)) (w.alloc (.cells #[v0, v1, v2, v3, v4] 48)) := by
  unfold execOp
  rw [ho]
  simp only [List.map_toArray, List.map_cons, List.map_nil, hx]
  kernel_rfl
 unfold Oper.wp
 rw [he]
 exact h
theorem exec_code {a : Act} {o : Oper} {w : World} {o0 o1 o2 o3 o4 : Operand} (ho : o.op = .build 48 #[(0, o0), (1, o1), (2, o2), (3, o3), (4, o4)]) {x y : Int} {A B C : Option Addr} {n m q c d e : Nat} (h0 : a.eval o0 = .int .i64 x) (h1 : a.eval o1 = .int .u64 y) (h2 : a.eval o2 = .slice A n c) (h3 : a.eval o3 = .slice B m d) (h4 : a.eval o4 = .slice C q e) :
  (execOp a.eval o).run Tryz.prog w = .ok (.value (.agg #[.int .i64 x, .int .u64 y, .slice A n c, .slice B m d, .slice C q e])) w := by
 unfold execOp
 rw [ho]
 simp only [List.map_toArray, List.map_cons, List.map_nil, h0, h1, h2, h3, h4]
 kernel_rfl
set_option maxRecDepth 100000 in
set_option maxHeartbeats 16000000 in
theorem rtold_at (w0 : World) (r : RowD) (hs : List Int) (P : Nat) (vp vq vpar vs vh : Value) (w : World) (hr0 : RowV w0 (.agg #[vp, vq, .int .i64 r.places, vpar, vs]) r) (hb0 : Below w0.heap.size w0 w) (hh : IR w vh hs) (hP : hs.length = P) (hP2 : P ≤ 4096) (hh0 : ∀ h ∈ hs, 0 ≤ h ∧ h < 10000)
  (hn : r.code.length ≤ 4096) (hpl : r.params.length ≤ 1000) (hpr : ∀ x ∈ r.params, 0 ≤ x ∧ x < hs.length) (hcr : ∀ c ∈ r.code, (∀ x ∈ c.args, 0 ≤ x ∧ x < hs.length) ∧ (∀ x ∈ c.outs, 0 ≤ x ∧ x < hs.length) ∧ c.args.length ≤ 100 ∧ c.outs.length ≤ 100 ∧ c.to.length ≤ 100) :
  Calls Tryz.prog 16 #[.agg #[vp, vq, .int .i64 r.places, vpar, vs], vh] w (RtPost w0 r hs vp vq w) := by
 have hr := hr0.below hb0 (Nat.le_refl _)
 have HR := Lib.hid hr
 have HR0 := Lib.hid hr0
 have HB00 := Lib.hid hb0
 clear hr0 hb0
 obtain ⟨_, _, _, _, e, h4, h5, h6, h7⟩ := hr
 injection e with e
 injection e with e
 simp only [List.cons.injEq, and_true] at e
 obtain ⟨rfl, rfl, _, rfl, rfl⟩ := e
 obtain ⟨vA, vc, rfl⟩ := h4.shape
 obtain ⟨vB, vd, rfl⟩ := h5.shape
 obtain ⟨Ac, cc, rfl, _⟩ := h7.len
 have HIH := hh
 obtain ⟨Ah, ch, rfl, _⟩ := hh
 obtain ⟨n, hnn⟩ : ∃ n, r.code.length = n := ⟨_, rfl⟩
 have HN := Lib.hid hnn
 have HP := Lib.hid hP
 have HLN := Lib.hid hP
 have HH := Lib.hid (show IR w (.slice Ah hs.length ch) hs from HIH)
 have HH0 := Lib.hid hh0
 have HPR := Lib.hid hpr
 have HCR := Lib.hid hcr
 have HI6 := Lib.hid h6.ir
 have HI7 := Lib.hid (structs_at HR0.out)
 clear HR0
 rw [hP] at HH ⊢
 rw [hnn] at HI7 hn ⊢
 clear h4 h5 h6 h7 hP hh0 hpr hcr HR hnn HIH
 have HB0 := Lib.hid (al2 w (.cells #[.slice vA r.sig.inn.length vc, .slice vB r.sig.out.length vd, .int .i64 r.places, vpar, .slice Ac n cc] 31) (.cells #[.slice none 0 0, .slice none 0 0, .int .i64 0, .slice none 0 0, .slice none 0 0] 31))
 have KR0 := Lib.hid (Blk.alloc (Blk.new w 31 #[.slice vA r.sig.inn.length vc, .slice vB r.sig.out.length vd, .int .i64 r.places, vpar, .slice Ac n cc]) (.cells #[.slice none 0 0, .slice none 0 0, .int .i64 0, .slice none 0 0, .slice none 0 0] 31))
 have KZ0 := Lib.hid (Blk.newAt (w.alloc (.cells #[.slice vA r.sig.inn.length vc, .slice vB r.sig.out.length vd, .int .i64 r.places, vpar, .slice Ac n cc] 31)) (N := w.heap.size + 1) 31 #[.slice none 0 0, .slice none 0 0, .int .i64 0, .slice none 0 0, .slice none 0 0] (by simp))
 go_enter Tryz.func16, Tryz.ntmps16
 go_wp2_with fail
 obtain ⟨w1, hw1⟩ : ∃ w1, (w.alloc (.cells #[.slice vA r.sig.inn.length vc, .slice vB r.sig.out.length vd, .int .i64 r.places, vpar, .slice Ac n cc] 31)).alloc (.cells #[.slice none 0 0, .slice none 0 0, .int .i64 0, .slice none 0 0, .slice none 0 0] 31) = w1 := ⟨_, rfl⟩
 rw [hw1] at HB0 KR0 KZ0 ⊢
 clear hw1
 obtain ⟨s0, hs0⟩ : ∃ s, w.heap.size = s := ⟨_, rfl⟩
 have HS0 := Lib.hid hs0
 rw [hs0] at KR0 KZ0 HB0 ⊢
 have HS1 := Lib.hid (KZ0.out.lt)
 have HSZ := Lib.hid (show s0 ≤ w1.heap.size by have := HS1.out; omega)
 obtain ⟨r0, r1, r2, r3, r4⟩ := blk5 KR0.out
 have y1 := KR0.out.lt
 have CC := Lib.hid (fun w' (hb : Below w1.heap.size w1 w') => named_any vpar (.slice Ah P ch) r.params hs w' ((HI6.out.below HB0.out (Nat.le_of_eq hs0)).below hb (Nat.le_refl _)) ((HH.out.below HB0.out (Nat.le_of_eq hs0)).below hb (Nat.le_refl _)) HPR.out (by omega) (by rw [HP.out]; omega))
 have HBW := Lib.hid (show Below w0.heap.size w0 w1 from HB00.out.trans ((show Below w.heap.size w w1 from hs0 ▸ HB0.out).mono HB00.out.size))
 clear hs0
 go_cut [5] (fun f wx => ∃ gb : Nat, f = .pointer (some ⟨gb, 0, none⟩) ∧ Hid (RtB w0 w1 gb (.slice vA r.sig.inn.length vc) (.slice vB r.sig.out.length vd) r hs 16 (.slice none 0 0) [] wx))
 case first =>
  have hS1 := run_S r0 r1 r3 y1 (drew_below w1)
  refine wp_region_D (fun w' => w'.cell? ⟨s0, 0, none⟩ = some (.slice vA r.sig.inn.length vc) ∧ w'.cell? ⟨s0, 1, none⟩ = some (.slice vB r.sig.out.length vd) ∧ w'.cell? ⟨s0, 3, none⟩ = some vpar ∧ Below w1.heap.size w1 w') (fun _ => True) 8 (by kernel_rfl) hS1 trivial (fun hD => ?_)
  refine wpAnyD_take (i := 0) (v := ?v0) rfl (by kernel_rfl) (by kernel_rfl) (by kernel_rfl) (fun _ _ _ h => h) rfl (Or.inl ⟨by rfl, ?hy0⟩) hD (fun hD => ?_)
  case hy0 => intro w hSw; (try dsimp only at hSw); go_simp; (try with_reducible rfl)
  try simp only [Act.put, List.setIfInBounds_toArray, List.set_cons_zero, List.set_cons_succ]
  refine wpAnyD_take (i := 1) (v := ?v1) rfl (by kernel_rfl) (by kernel_rfl) (by kernel_rfl) (fun _ _ _ h => h) rfl (Or.inl ⟨by rfl, ?hy1⟩) hD (fun hD => ?_)
  case hy1 => intro w hSw; (try dsimp only at hSw); go_simp; (try with_reducible rfl)
  try simp only [Act.put, List.setIfInBounds_toArray, List.set_cons_zero, List.set_cons_succ]
  refine wpAnyD_take (i := 2) (v := ?v2) rfl (by kernel_rfl) (by kernel_rfl) (by kernel_rfl) (fun _ _ _ h => h) rfl (Or.inl ⟨by rfl, ?hy2⟩) hD (fun hD => ?_)
  case hy2 => intro w hSw; (try dsimp only at hSw); go_simp; (try with_reducible rfl)
  try simp only [Act.put, List.setIfInBounds_toArray, List.set_cons_zero, List.set_cons_succ]
  refine wpAnyD_take (i := 3) (v := ?v3) rfl (by kernel_rfl) (by kernel_rfl) (by kernel_rfl) (fun _ _ _ h => h) rfl (Or.inl ⟨by rfl, ?hy3⟩) hD (fun hD => ?_)
  case hy3 => intro w hSw; (try dsimp only at hSw); go_simp; (try with_reducible rfl)
  try simp only [Act.put, List.setIfInBounds_toArray, List.set_cons_zero, List.set_cons_succ]
  refine wpAnyD_take (i := 4) (v := ?v4) rfl (by kernel_rfl) (by kernel_rfl) (by kernel_rfl) (fun _ _ _ h => h) rfl (Or.inl ⟨by rfl, ?hy4⟩) hD (fun hD => ?_)
  case hy4 => intro w hSw; (try dsimp only at hSw); go_simp; (try with_reducible rfl)
  try simp only [Act.put, List.setIfInBounds_toArray, List.set_cons_zero, List.set_cons_succ]
  refine wpAnyD_two (i := 5) (j := 7) (by kernel_rfl) rfl rfl (fun K hK => ?_) (fun K hK => ?_)
  ·go_simp
   (with_reducible refine (CC.out _ (run_sB hS1)).mono ?_)
   rintro en wC ⟨vC, rfl, hoC, hbC⟩
   have oC := Lib.hid (own_mono hoC (Below.size (run_sB hS1)))
   have sC := below_step (run_sB hS1) hbC
   obtain ⟨AC, cC, rfl, _⟩ := own_shape hoC
   refine hK.out _ _ ⟨run_S r0 r1 r3 y1 sC, fun _ => trivial⟩ (fun hD => ?_)
   clear hK K
   try simp only [Act.put, List.setIfInBounds_toArray, List.set_cons_zero, List.set_cons_succ]
   refine wpAnyD_take (i := 6) (v := ?v6) rfl (by kernel_rfl) (by kernel_rfl) (by kernel_rfl) (fun _ _ _ h => h) rfl (Or.inl ⟨by rfl, ?hy6⟩) hD (fun hD => ?_)
   case hy6 => intro w hSw; (try dsimp only at hSw); go_simp; (try with_reducible rfl)
   try simp only [Act.put, List.setIfInBounds_toArray, List.set_cons_zero, List.set_cons_succ]
   refine wpAnyD_one (i := 7) (by kernel_rfl) rfl (fun K hK => ?_)
   go_simp
   refine hK.out _ _ ⟨run_S r0 r1 r3 y1 (below_al sC), fun _ => trivial⟩ (fun hD => ?_)
   clear hK K
   try simp only [Act.put, List.setIfInBounds_toArray, List.set_cons_zero, List.set_cons_succ]
   refine wpAnyD_one (i := 8) (by kernel_rfl) rfl (fun K hK => ?_)
   go_simp
   refine hK.out _ _ ⟨run_S r0 r1 r3 y1 (below_al sC), fun _ => trivial⟩ (fun hD => ?_)
   clear hK K
   try simp only [Act.put, List.setIfInBounds_toArray, List.set_cons_zero, List.set_cons_succ]
   refine wpAnyD_done (by kernel_rfl) ?_ _
   go_wp2_with fail
   go_meet
   with_reducible exact ⟨_, rfl, Lib.hid (RtB.mk1 oC.out sC)⟩
  ·go_simp
   refine hK.out _ _ ⟨run_S r0 r1 r3 y1 (drew_al w1), fun _ => trivial⟩ (fun hD => ?_)
   clear hK K
   try simp only [Act.put, List.setIfInBounds_toArray, List.set_cons_zero, List.set_cons_succ]
   refine wpAnyD_one (i := 5) (by kernel_rfl) rfl (fun K hK => ?_)
   go_simp
   (with_reducible refine (CC.out _ (drew_al w1)).mono ?_)
   rintro en wC ⟨vC, rfl, hoC, hbC⟩
   have oC := Lib.hid (own_mono hoC (Below.size (drew_al w1)))
   have sC := below_step (drew_al w1) hbC
   have kz := Lib.hid (box_afterD hbC)
   obtain ⟨AC, cC, rfl, _⟩ := own_shape hoC
   refine hK.out _ _ ⟨run_S r0 r1 r3 y1 sC, fun _ => trivial⟩ (fun hD => ?_)
   clear hK K
   try simp only [Act.put, List.setIfInBounds_toArray, List.set_cons_zero, List.set_cons_succ]
   refine wpAnyD_take (i := 6) (v := ?v6b) rfl (by kernel_rfl) (by kernel_rfl) (by kernel_rfl) (fun _ _ _ h => h) rfl (Or.inl ⟨by rfl, ?hy6b⟩) hD (fun hD => ?_)
   case hy6b => intro w hSw; (try dsimp only at hSw); go_simp; (try with_reducible rfl)
   try simp only [Act.put, List.setIfInBounds_toArray, List.set_cons_zero, List.set_cons_succ]
   obtain ⟨z0, z1, z2, z3, z4⟩ := blk5 kz.out
   have f0 := frz kz.out 0
   have f1 := frz kz.out 1
   have f2 := frz kz.out 2
   have f3 := frz kz.out 3
   have f4 := frz kz.out 4
   have yz := Blk.lt kz.out
   refine wpAnyD_one (i := 8) (by kernel_rfl) rfl (fun K hK => ?_)
   go_simp
   refine hK.out _ _ ⟨run_S r0 r1 r3 y1 (below5 sC (Nat.le_refl _) _ _ _ _ _), fun _ => trivial⟩ (fun hD => ?_)
   clear hK K
   try simp only [Act.put, List.setIfInBounds_toArray, List.set_cons_zero, List.set_cons_succ]
   refine wpAnyD_done (by kernel_rfl) ?_ _
   go_wp2_with fail
   go_meet
   with_reducible exact ⟨_, rfl, Lib.hid (RtB.mk2 oC.out sC kz.out (Nat.le_refl _))⟩
 case rest =>
  as_aux_lemma =>
  obtain ⟨w2, rfl⟩ : ∃ w2 : World, w2 = wc := ⟨_, rfl⟩
  obtain ⟨gb, rfl, HU⟩ := hcut
  have HU0 := Lib.hid (show RtB w0 w1 gb (.slice vA r.sig.inn.length vc) (.slice vB r.sig.out.length vd) r hs (topFrom 16 (hs.take 0)) (.slice none 0 0) [] w2 from HU.out)
  clear r0 r1 r2 r3 r4 CC HU
  go_wp2_with fail
  go_loopw [6] (fun i wr => ∃ k : Nat, k ≤ P ∧ i = .int .i64 k ∧ Hid (RtB w0 w1 gb (.slice vA r.sig.inn.length vc) (.slice vB r.sig.out.length vd) r hs (topFrom 16 (hs.take k)) (.slice none 0 0) [] wr)) (fun i _ => P - (intOf i).toNat)
  case atStart => exact ⟨0, by omega, rfl, HU0⟩
  case round =>
   clear HU0
   obtain ⟨k, hk, rfl, IU⟩ := hrel
   by_cases hkP : k < P
   ·as_aux_lemma =>
    have t1 : decide ((k : Int) < P) = true := by simp; omega
    have t2 : (k : Int) < P := by omega
    obtain ⟨x, hx⟩ : ∃ x, hs[k]? = some x := ⟨_, List.getElem?_eq_getElem (by rw [HLN.out]; exact hkP)⟩
    have hxo := HH0.out x (List.mem_of_getElem? hx)
    obtain ⟨p, kb, op, oc, hb, hg⟩ := IU.out
    obtain ⟨xb, xo, rfl, hxb, hcx⟩ := (HH.out.below (HB0.out.trans (hb.mono HSZ.out)) (Nat.le_of_eq HS0.out)).cell hx
    obtain ⟨zx, rfl⟩ : ∃ z : Nat, x = z := ⟨x.toNat, by omega⟩
    obtain ⟨T, hT⟩ : ∃ T, topFrom 16 (hs.take k) = T := ⟨_, rfl⟩
    have hT2 : topFrom 16 (hs.take (k + 1)) = max T ((zx : Int) + 1) := by
     obtain ⟨h1, h2⟩ := List.getElem?_eq_some_iff.1 hx
     rw [List.take_succ_eq_append_getElem h1, h2, topFrom_snoc, hT]
    rw [hT] at IU kb
    have hz2 : zx < 10000 := by omega
    obtain ⟨zy, hzy⟩ : ∃ z : Nat, zx + 1 = z := ⟨_, rfl⟩
    have w1' : IntKind.i64.wrap ((zx : Int) + 1) = (zy : Int) := by rw [show (zx : Int) + 1 = (zy : Int) by omega]; exact IntWalk.i64_in _ (by omega)
    rw [show (zx : Int) + 1 = (zy : Int) by omega] at hT2
    obtain ⟨d0, d1, d2, d3, d4⟩ := blk5 kb
    have f2 := frz kb 2
    have yb := kb.lt
    have HNX := Lib.hid (fun q => (show RtB w0 w1 gb (.slice vA r.sig.inn.length vc) (.slice vB r.sig.out.length vd) r hs T (.slice none 0 0) [] (wr.drewN q) from IU.out.below (below_drewN (Below.refl _ _) q)).setT (max T (zy : Int)))
    rw [← hT2] at HNX
    have HT2 := Lib.hid hT2
    clear hx hxo kb op oc hb hT hT2 IU hzy
    go_wp2_with fail
    go_region
    all_goals
     go_wp2_with fail
     first
      | exact ⟨⟨k + 1, by omega, by simp, by rw [HT2.out]; rw [HT2.out] at HNX; exact Lib.hid (HNX.out 1)⟩, by simp [intOf]; omega⟩
   ·as_aux_lemma =>
    have t1 : decide ((k : Int) < P) = false := by simp; omega
    have hTK : hs.take k = hs := List.take_of_length_le (by rw [HLN.out]; omega)
    rw [hTK] at IU
    obtain ⟨w3, rfl⟩ : ∃ w3 : World, w3 = wr := ⟨_, rfl⟩
    obtain ⟨p, kb, op, oc, hb, hg⟩ := IU.out
    have KR3 := KR0.out.below hb (by have := HS1.out; omega)
    obtain ⟨r0, r1, r2, r3, r4⟩ := blk5 KR3
    have y3 := KR3.lt
    have HU0 := Lib.hid (show ∃ d, RtB w0 w1 gb (.slice vA r.sig.inn.length vc) (.slice vB r.sig.out.length vd) r hs (topOf hs) d ((r.code.take 0).map (toldC hs)) w3 from ⟨_, IU.out⟩)
    clear kb op oc hb IU
    go_wp2_with fail
    go_loopw [7] (fun i wr => ∃ k : Nat, k ≤ n ∧ i = .int .i64 k ∧ Hid (∃ d, RtB w0 w1 gb (.slice vA r.sig.inn.length vc) (.slice vB r.sig.out.length vd) r hs (topOf hs) d ((r.code.take k).map (toldC hs)) wr)) (fun i _ => n - (intOf i).toNat)
    case atStart => exact ⟨0, by omega, rfl, HU0⟩
    case round =>
     clear HU0 r0 r1 r2 r3 r4 y3
     obtain ⟨k, hk, rfl, IU⟩ := hrel
     obtain ⟨d, p, kb, op, oc, hb, hg⟩ := IU.out
     have KR3 := KR0.out.below hb (by have := HS1.out; omega)
     obtain ⟨r0, r1, r2, r3, r4⟩ := blk5 KR3
     have y3 := KR3.lt
     by_cases hkn : k < n
     ·as_aux_lemma =>
      have t1 : decide ((k : Int) < n) = true := by simp; omega
      have t2 : (k : Int) < n := by omega
      obtain ⟨c, hc⟩ : ∃ c, r.code[k]? = some c := ⟨_, List.getElem?_eq_getElem (by rw [HN.out]; exact hkn)⟩
      have HCK := Lib.hid hc
      have hBw := HBW.out.trans (hb.mono HBW.out.size)
      obtain ⟨cb, co, ua, ub, uc, rfl, hcb, g0, g1, g2, g3, g4, s0', i1, i2, i3⟩ := HI7.out.code hc
      replace g0 := (hBw.cell (p := ⟨cb, _, none⟩) hcb).trans g0
      replace g1 := (hBw.cell (p := ⟨cb, _, none⟩) hcb).trans g1
      replace g2 := (hBw.cell (p := ⟨cb, _, none⟩) hcb).trans g2
      replace g3 := (hBw.cell (p := ⟨cb, _, none⟩) hcb).trans g3
      replace g4 := (hBw.cell (p := ⟨cb, _, none⟩) hcb).trans g4
      have y2 : cb < wr.heap.size := by have := hBw.size; omega
      obtain ⟨pA, pc, rfl⟩ := i1.shape
      obtain ⟨qA, qc, rfl⟩ := i2.shape
      obtain ⟨tA, tc, rfl⟩ := i3.shape
      have J1 := Lib.hid (i1.ir.below HBW.out (Nat.le_refl _))
      have J2 := Lib.hid (i2.ir.below HBW.out (Nat.le_refl _))
      have J3 := Lib.hid i3
      have hcl := HCR.out c (List.mem_of_getElem? hc)
      have HS0' := Lib.hid s0'
      have hto : c.to.length ≤ 100 := hcl.2.2.2.2
      have P1 := Lib.hid hcl.1
      have P2 := Lib.hid hcl.2.1
      have hl1 := hcl.2.2.1
      have hl2 := hcl.2.2.2.1
      have q4 : hs.length ≤ 100000 := by rw [HLN.out]; omega
      obtain ⟨N, hN⟩ : ∃ N, wr.heap.size = N := ⟨_, rfl⟩
      have hlC : ((r.code.take k).map (toldC hs)).length = k := by rw [List.length_map, List.length_take, HN.out]; omega
      obtain ⟨C, hC⟩ : ∃ C, (r.code.take k).map (toldC hs) = C := ⟨_, rfl⟩
      rw [hC] at oc hlC
      have HCl := Lib.hid hlC
      have HTC := Lib.hid (show (r.code.take (k + 1)).map (toldC hs) = C ++ [toldC hs c] from by
       obtain ⟨h1, h2⟩ := List.getElem?_eq_some_iff.1 HCK.out
       rw [List.take_succ_eq_append_getElem h1, h2, List.map_append, hC]
       rfl)
      obtain ⟨xs4, hxs4⟩ := oc.row
      rw [hlC] at hxs4
      obtain ⟨Ad, cd, hd4, _⟩ := own_shape hxs4
      subst hd4
      have HNd := Lib.hid (show ∀ j, (Value.slice Ad k cd).ownBlock = some j → w1.heap.size ≤ j ∧ j ≠ N from fun j hj => by have := hxs4.lt j hj; omega)
      have ygr := kb.lt
      have hNg : N ≠ gb := by omega
      have hBS : w1.heap.size ≤ N := by have := hb.size; omega
      obtain ⟨wk, hwk⟩ : ∃ wk, wr.alloc (.cells #[.int .i64 c.op, .int .u64 (c.n : Int), .slice pA c.args.length pc, .slice qA c.outs.length qc, .slice tA c.to.length tc] 48) = wk := ⟨_, rfl⟩
      have hal : Below wr.heap.size wr wk := hwk ▸ (Below.refl _ _).alloc (Nat.le_refl _) _
      have KNw : Blk wk N 48 #[.int .i64 c.op, .int .u64 (c.n : Int), .slice pA c.args.length pc, .slice qA c.outs.length qc, .slice tA c.to.length tc] := hwk ▸ Blk.newAt wr (N := N) 48 _ hN
      obtain ⟨n0, n1, n2, n3, n4⟩ := blk5 KNw
      have hS0 := (show _ ∧ _ ∧ _ ∧ _ ∧ _ ∧ _ ∧ _ from ⟨n0, n1, n2, n3, n4, KNw.lt, below_step hb hal⟩)
      have HRU := Lib.hid ((show RtB w0 w1 gb (.slice vA r.sig.inn.length vc) (.slice vB r.sig.out.length vd) r hs (topOf hs) (.slice Ad k cd) C wr from ⟨p, kb, op, oc, hb, hg⟩).below hal)
      have c4 : wk.cell? ⟨gb, 4, none⟩ = some (.slice Ad k cd) := by
       obtain ⟨_, kb, _⟩ := HRU.out
       exact (blk5 kb).2.2.2.2
      have yg : gb < wk.heap.size := Nat.lt_of_lt_of_le ygr hal.size
      have HHS := Lib.hid hS0
      have HHC := Lib.hid c4
      have HYG := Lib.hid yg
      have HHL := Lib.hid (show True from trivial)
      clear hc i1 i2 i3 s0' hcl kb op oc hb hBw IU hC hlC hxs4 hal KNw n0 n1 n2 n3 n4 hS0 c4 yg KR3
      rw [hN] at y2
      go_wp2_with fail
      (try rw [hwk])
      have hS0 := HHS.out
      have c4 := HHC.out
      have yg := HYG.out
      clear hwk g0 g1 g2 g3 g4 y2 r0 r1 r2 r3 r4 y3
      have CA := Lib.hid (fun w' (hb : Below w1.heap.size w1 w') => named_any (.slice pA c.args.length pc) (.slice Ah P ch) c.args hs w' (J1.out.below hb (Nat.le_refl _)) ((HH.out.below HB0.out (Nat.le_of_eq HS0.out)).below hb (Nat.le_refl _)) P1.out (by omega) q4)
      have CB := Lib.hid (fun w' (hb : Below w1.heap.size w1 w') => named_any (.slice qA c.outs.length qc) (.slice Ah P ch) c.outs hs w' (J2.out.below hb (Nat.le_refl _)) ((HH.out.below HB0.out (Nat.le_of_eq HS0.out)).below hb (Nat.le_refl _)) P2.out (by omega) q4)
      obtain ⟨ic, hic, hz0, hz1, hz2⟩ := info_parts info_codeA
      have hBK := drew_below wk
      have hS1 := sN_drew hS0
      have c4 := (hBK.cell (p := ⟨gb, 4, none⟩) yg).trans c4
      have yg := Nat.lt_of_lt_of_le yg hBK.size
      have HRU := Lib.hid (RtB.below HRU.out hBK)
      refine wp_region_D (fun w' => w'.cell? ⟨N, 0, none⟩ = some (.int .i64 c.op) ∧ w'.cell? ⟨N, 1, none⟩ = some (.int .u64 (c.n : Int)) ∧ w'.cell? ⟨N, 2, none⟩ = some (.slice pA c.args.length pc) ∧ w'.cell? ⟨N, 3, none⟩ = some (.slice qA c.outs.length qc) ∧ w'.cell? ⟨N, 4, none⟩ = some (.slice tA c.to.length tc) ∧ N < w'.heap.size ∧ Below w1.heap.size w1 w') (fun w' => w'.cell? ⟨gb, 4, none⟩ = some (.slice Ad k cd)) 18 (by kernel_rfl) hS1 c4 (fun hD => ?_)
      refine wpAnyD_take (i := 0) (v := ?vc0) rfl (by kernel_rfl) (by kernel_rfl) (by kernel_rfl) (fun _ _ _ h => h) rfl (Or.inl ⟨by rfl, ?hyc0⟩) hD (fun hD => ?_)
      case hyc0 => intro w hSw; (try dsimp only at hSw); go_simp; (try with_reducible rfl)
      try simp only [Act.put, List.setIfInBounds_toArray, List.set_cons_zero, List.set_cons_succ]
      refine wpAnyD_take2 (i := 1) (v := ?vc1) rfl (by kernel_rfl) (by kernel_rfl) (by kernel_rfl) (fun _ _ _ h => h) rfl (by kernel_rfl) (by kernel_rfl) (Or.inl ⟨by rfl, ?hyc1⟩) hD (fun hD => ?_)
      case hyc1 => intro w hSw; (try dsimp only at hSw); go_simp; (try with_reducible rfl)
      try simp only [Act.put, List.setIfInBounds_toArray, List.set_cons_zero, List.set_cons_succ]
      refine wpAnyD_take (i := 2) (v := ?vc2) rfl (by kernel_rfl) (by kernel_rfl) (by kernel_rfl) (fun _ _ _ h => h) rfl (Or.inl ⟨by rfl, ?hyc2⟩) hD (fun hD => ?_)
      case hyc2 => intro w hSw; (try dsimp only at hSw); go_simp; (try with_reducible rfl)
      try simp only [Act.put, List.setIfInBounds_toArray, List.set_cons_zero, List.set_cons_succ]
      refine wpAnyD_take (i := 3) (v := ?vc3) rfl (by kernel_rfl) (by kernel_rfl) (by kernel_rfl) (fun _ _ _ h => h) rfl (Or.inl ⟨by rfl, ?hyc3⟩) hD (fun hD => ?_)
      case hyc3 => intro w hSw; (try dsimp only at hSw); go_simp; (try with_reducible rfl)
      try simp only [Act.put, List.setIfInBounds_toArray, List.set_cons_zero, List.set_cons_succ]
      refine wpAnyD_take (i := 4) (v := ?vc4) rfl (by kernel_rfl) (by kernel_rfl) (by kernel_rfl) (fun _ _ _ h => h) rfl (Or.inl ⟨by rfl, ?hyc4⟩) hD (fun hD => ?_)
      case hyc4 => intro w hSw; (try dsimp only at hSw); go_simp; (try with_reducible rfl)
      try simp only [Act.put, List.setIfInBounds_toArray, List.set_cons_zero, List.set_cons_succ]
      refine wpAnyD_take (i := 5) (v := ?vc5) rfl (by kernel_rfl) (by kernel_rfl) (by kernel_rfl) (fun _ _ _ h => h) rfl (Or.inl ⟨by rfl, ?hyc5⟩) hD (fun hD => ?_)
      case hyc5 => intro w hSw; (try dsimp only at hSw); go_simp; (try with_reducible rfl)
      try simp only [Act.put, List.setIfInBounds_toArray, List.set_cons_zero, List.set_cons_succ]
      refine wpAnyD_take (i := 6) (v := ?vc6) rfl (by kernel_rfl) (by kernel_rfl) (by kernel_rfl) (fun _ _ _ h => h) rfl (Or.inl ⟨by rfl, ?hyc6⟩) hD (fun hD => ?_)
      case hyc6 => intro w hSw; (try dsimp only at hSw); go_simp; (try with_reducible rfl)
      try simp only [Act.put, List.setIfInBounds_toArray, List.set_cons_zero, List.set_cons_succ]
      refine wpAnyD_take (i := 7) (v := ?vc7) rfl (by kernel_rfl) (by kernel_rfl) (by kernel_rfl) (fun _ _ _ h => h) rfl (Or.inl ⟨by rfl, ?hyc7⟩) hD (fun hD => ?_)
      case hyc7 => intro w hSw; (try dsimp only at hSw); go_simp; (try with_reducible rfl)
      try simp only [Act.put, List.setIfInBounds_toArray, List.set_cons_zero, List.set_cons_succ]
      refine wpAnyD_take (i := 8) (v := ?vc8) rfl (by kernel_rfl) (by kernel_rfl) (by kernel_rfl) (fun _ _ _ h => h) rfl (Or.inl ⟨by rfl, ?hyc8⟩) hD (fun hD => ?_)
      case hyc8 => intro w hSw; (try dsimp only at hSw); go_simp; (try with_reducible rfl)
      try simp only [Act.put, List.setIfInBounds_toArray, List.set_cons_zero, List.set_cons_succ]
      refine wpAnyD_take (i := 10) (v := ?vc10) rfl (by kernel_rfl) (by kernel_rfl) (by kernel_rfl) (fun _ _ _ h => h) rfl (Or.inl ⟨by rfl, ?hyc10⟩) hD (fun hD => ?_)
      case hyc10 => intro w hSw; (try dsimp only at hSw); go_simp; (try with_reducible rfl)
      try simp only [Act.put, List.setIfInBounds_toArray, List.set_cons_zero, List.set_cons_succ]
      refine wpAnyD_take (i := 11) (v := ?vc11) rfl (by kernel_rfl) (by kernel_rfl) (by kernel_rfl) (fun _ _ _ h => h) rfl (Or.inl ⟨by rfl, ?hyc11⟩) hD (fun hD => ?_)
      case hyc11 => intro w hSw; (try dsimp only at hSw); go_simp; (try with_reducible rfl)
      try simp only [Act.put, List.setIfInBounds_toArray, List.set_cons_zero, List.set_cons_succ]
      refine wpAnyD_take (i := 12) (v := ?vc12) rfl (by kernel_rfl) (by kernel_rfl) (by kernel_rfl) (fun _ _ _ h => h) rfl (Or.inl ⟨by rfl, ?hyc12⟩) hD (fun hD => ?_)
      case hyc12 => intro w hSw; (try dsimp only at hSw); go_simp; (try with_reducible rfl)
      try simp only [Act.put, List.setIfInBounds_toArray, List.set_cons_zero, List.set_cons_succ]
      refine wpAnyD_take (i := 14) (v := ?vc14) rfl (by kernel_rfl) (by kernel_rfl) (by kernel_rfl) (fun _ _ _ h => h) rfl (Or.inl ⟨by rfl, ?hyc14⟩) hD (fun hD => ?_)
      case hyc14 => intro w hSw; (try dsimp only at hSw); go_simp; (try with_reducible rfl)
      try simp only [Act.put, List.setIfInBounds_toArray, List.set_cons_zero, List.set_cons_succ]
      refine wpAnyD_take (i := 15) (v := ?vc15) rfl (by kernel_rfl) (by kernel_rfl) (by kernel_rfl) (fun _ _ _ h => h) rfl (Or.inl ⟨by rfl, ?hyc15⟩) hD (fun hD => ?_)
      case hyc15 => intro w hSw; (try dsimp only at hSw); go_simp; (try with_reducible rfl)
      try simp only [Act.put, List.setIfInBounds_toArray, List.set_cons_zero, List.set_cons_succ]
      refine wpAnyD_one (i := 9) (by kernel_rfl) rfl (fun K hK => ?_)
      go_simp
      (with_reducible refine (CA.out _ (sN_below hS1)).mono ?_)
      rintro en wA ⟨vA, rfl, hoA, hbA⟩
      have oA := Lib.hid (own_mono hoA (Below.size (sN_below hS1)))
      have sA := sN_call hS1 hbA
      have c4 := (hbA.cell (p := ⟨gb, 4, none⟩) yg).trans c4
      have yg := Nat.lt_of_lt_of_le yg hbA.size
      have HRU := Lib.hid (RtB.below HRU.out hbA)
      obtain ⟨AA, cA, rfl, _⟩ := own_shape hoA
      refine hK.out _ _ ⟨sA, fun _ => c4⟩ (fun hD => ?_)
      clear hK K
      try simp only [Act.put, List.setIfInBounds_toArray, List.set_cons_zero, List.set_cons_succ]
      refine wpAnyD_one (i := 13) (by kernel_rfl) rfl (fun K hK => ?_)
      go_simp
      (with_reducible refine (CB.out _ (sN_below sA)).mono ?_)
      rintro en wB ⟨vB, rfl, hoB, hbB⟩
      have oB := Lib.hid (own_mono hoB (Below.size (sN_below sA)))
      have sB := sN_call sA hbB
      have c4 := (hbB.cell (p := ⟨gb, 4, none⟩) yg).trans c4
      have yg := Nat.lt_of_lt_of_le yg hbB.size
      have HRU := Lib.hid (RtB.below HRU.out hbB)
      have oA := Lib.hid (own_carry1 oA.out hbB)
      obtain ⟨AB, cB, rfl, _⟩ := own_shape hoB
      refine hK.out _ _ ⟨sB, fun _ => c4⟩ (fun hD => ?_)
      clear hK K
      try simp only [Act.put, List.setIfInBounds_toArray, List.set_cons_zero, List.set_cons_succ]
      refine wpAnyD_take (i := 16) (v := ?vc16) rfl (by kernel_rfl) (by kernel_rfl) (by kernel_rfl) (fun _ _ _ h => h) rfl (Or.inl ⟨by rfl, ?hyc16⟩) hD (fun hD => ?_)
      case hyc16 => intro w hSw; refine exec_code (o0 := .tmp 46) (o1 := .tmp 48) (o2 := .tmp 52) (o3 := .tmp 56) (o4 := .tmp 58) (x := c.op) (y := (c.n : Int)) (A := AA) (n := c.args.length) (c := cA) (B := AB) (m := c.outs.length) (d := cB) (C := tA) (q := c.to.length) (e := tc) ?_ ?_ ?_ ?_ ?_ ?_ <;> rfl
      try simp only [Act.put, List.setIfInBounds_toArray, List.set_cons_zero, List.set_cons_succ]
      refine wpAnyD_one (i := 17) (by kernel_rfl) rfl (fun K hK => ?_)
      refine step_code rfl (.tmp 59) rfl (v0 := .int .i64 c.op) (v1 := .int .u64 (c.n : Int)) (v2 := .slice AA c.args.length cA) (v3 := .slice AB c.outs.length cB) (v4 := .slice tA c.to.length tc) rfl ?_
      have sN := sN_alloc (o := .cells #[.int .i64 c.op, .int .u64 (c.n : Int), .slice AA c.args.length cA, .slice AB c.outs.length cB, .slice tA c.to.length tc] 48) sB
      have hal := (Below.refl wB.heap.size wB).alloc (Nat.le_refl _) (.cells #[.int .i64 c.op, .int .u64 (c.n : Int), .slice AA c.args.length cA, .slice AB c.outs.length cB, .slice tA c.to.length tc] 48)
      have c4 := (hal.cell (p := ⟨gb, 4, none⟩) yg).trans c4
      refine hK.out _ _ ⟨sN, fun _ => c4⟩ (fun hD => ?_)
      clear hK K
      try simp only [Act.put, List.setIfInBounds_toArray, List.set_cons_zero, List.set_cons_succ]
      obtain ⟨p9, kb9, op9, ⟨vs9, ho9, hv9, hc9⟩, hb9, hg9⟩ := RtB.below HRU.out hal
      have ho8 := ho9
      rw [HCl.out] at ho8
      refine wpAnyD_one (i := 18) (by kernel_rfl) rfl (fun K hK => ?_)
      refine step_append_lies _ (by rfl) (.tmp 44) (.tmp 60) 29 (by rfl) w1.heap.size 48 ic _ 5 88 Tryz.underlying29 hic hz0 hz1 hz2 (by rfl) (by omega) (.slice Ad k cd) k vs9.flatten (by go_simp) ho8 ⟨wB.heap.size, 0, none⟩ 1 1 [.int .i64 c.op, .int .u64 (c.n : Int), .slice AA c.args.length cA, .slice AB c.outs.length cB, .slice tA c.to.length tc] (by go_simp) (by rfl) (World.news_of_block (cs := #[.int .i64 c.op, .int .u64 (c.n : Int), .slice AA c.args.length cA, .slice AB c.outs.length cB, .slice tA c.to.length tc]) (t := 48) (fr := (0, 0)) (Blk.newAt _ _ _ rfl)) (one5 _ _ _ _ _ rfl rfl rfl rfl rfl) (by omega) (by unfold maxLen; omega) (by omega) hb9.size _ rfl ?_
      intro gg cap w9 hown hgr hat hlt
      have kbx := kb9.grown hgr (own_ne ho9 kb9 (by decide))
      obtain ⟨_, _, _, _, d4⟩ := blk5 kbx
      have f4 := frz kbx 4
      have y9 := kbx.lt
      have sD := sN_grown sN hgr (fun j hj => HNd.out j hj)
      have HCO := code_toldR HS0'.out oA.out oB.out J3.out (Blk.new wB 48 #[.int .i64 c.op, .int .u64 (c.n : Int), .slice AA c.args.length cA, .slice AB c.outs.length cB, .slice tA c.to.length tc])
      have HFN := Lib.hid (RtB.push (n := k) kb9 op9 ho9 hv9 hc9 hb9 hg9 HCO (by rw [HCl.out]; exact hown) hgr)
      clear hown hgr hat kbx kb9 op9 ho9 ho8 hv9 hc9 HCO
      refine hK.out _ _ (SD.after sD (by kernel_rfl)) (fun hD => ?_)
      clear hK K
      try simp only [Act.put, List.setIfInBounds_toArray, List.set_cons_zero, List.set_cons_succ]
      refine wpAnyD_take (i := 19) (v := ?vc19) rfl (by kernel_rfl) (by kernel_rfl) (by kernel_rfl) (fun _ _ _ h => h) rfl (Or.inl ⟨by rfl, ?hyc19⟩) hD (fun hD => ?_)
      case hyc19 => intro w hSw; (try dsimp only at hSw); go_simp; (try with_reducible rfl)
      try simp only [Act.put, List.setIfInBounds_toArray, List.set_cons_zero, List.set_cons_succ]
      refine wpAnyD_one (i := 20) (by kernel_rfl) rfl (fun K hK => ?_)
      go_simp
      refine hK.out _ _ (SD.after (sN_set sD hNg hg) (by kernel_rfl)) (fun hD => ?_)
      clear hK K
      try simp only [Act.put, List.setIfInBounds_toArray, List.set_cons_zero, List.set_cons_succ]
      refine wpAnyD_done (by kernel_rfl) ?_ _
      go_wp2_with fail
      with_reducible exact ⟨⟨k + 1, by omega, by simp, Lib.hid ⟨_, by rw [HTC.out]; exact HFN.out⟩⟩, by simp [intOf]; omega⟩
     ·as_aux_lemma =>
      have t1 : decide ((k : Int) < n) = false := by simp; omega
      have hTK2 : r.code.take k = r.code := List.take_of_length_le (by rw [HN.out]; omega)
      rw [hTK2] at oc
      have hcd := oc.row
      obtain ⟨A3, c3, rfl, _⟩ := own_shape op
      obtain ⟨xs4, hxs4⟩ := hcd
      obtain ⟨A4, c4, hd4, _⟩ := own_shape hxs4
      rw [List.length_map, HN.out] at hd4
      subst hd4
      obtain ⟨d0, d1, d2, d3, d4⟩ := blk5 kb
      have yb := kb.lt
      have KZr := KZ0.out.below hb HS1.out
      obtain ⟨z0, z1, z2, z3, z4⟩ := blk5 KZr
      have f0 := frz KZr 0
      have f1 := frz KZr 1
      have f2 := frz KZr 2
      have f3 := frz KZr 3
      have f4 := frz KZr 4
      have yz := KZr.lt
      have hwz : w.heap.size ≤ w1.heap.size := by have := HSZ.out; have := HS0.out; omega
      have HFP := Lib.hid (own_mono (own5 op KZr (.slice vA r.sig.inn.length vc) (.slice vB r.sig.out.length vd) (.int .i64 (topOf hs)) (.slice A3 r.params.length c3) (.slice A4 n c4)) hwz)
      have HFC := Lib.hid ((oc.other5 KZr (.slice vA r.sig.inn.length vc) (.slice vB r.sig.out.length vd) (.int .i64 (topOf hs)) (.slice A3 r.params.length c3) (.slice A4 n c4)).mono hwz)
      have HFW := Lib.hid (below5 (HB0.out.trans (hb.mono HSZ.out)) (show s0 ≤ s0 + 1 by omega) (.slice vA r.sig.inn.length vc) (.slice vB r.sig.out.length vd) (.int .i64 (topOf hs)) (.slice A3 r.params.length c3) (.slice A4 n c4))
      have HKF := Lib.hid (blk_set5 KZr (.slice vA r.sig.inn.length vc) (.slice vB r.sig.out.length vd) (.int .i64 (topOf hs)) (.slice A3 r.params.length c3) (.slice A4 n c4))
      clear kb op oc hb IU hxs4 KZr KR3 hwz
      go_wp2_with fail
      refine bodyPost_ret (rtold_results _ _ (s0 + 1) _ _ _ _ _ rfl HKF.out) rfl ?_
      exact ⟨_, _, rfl, HFP.out, HFC.out, by rw [HS0.out]; exact HFW.out⟩
theorem rtold_any (r : RowD) (hs : List Int) (P : Nat) (vp vq vpar vs vh : Value) (w : World) (hr : RowV w (.agg #[vp, vq, .int .i64 r.places, vpar, vs]) r) (hh : IR w vh hs) (hP : hs.length = P) (hP2 : P ≤ 4096) (hh0 : ∀ h ∈ hs, 0 ≤ h ∧ h < 10000)
  (hn : r.code.length ≤ 4096) (hpl : r.params.length ≤ 1000) (hpr : ∀ x ∈ r.params, 0 ≤ x ∧ x < hs.length) (hcr : ∀ c ∈ r.code, (∀ x ∈ c.args, 0 ≤ x ∧ x < hs.length) ∧ (∀ x ∈ c.outs, 0 ≤ x ∧ x < hs.length) ∧ c.args.length ≤ 100 ∧ c.outs.length ≤ 100 ∧ c.to.length ≤ 100) :
  Calls Tryz.prog 16 #[.agg #[vp, vq, .int .i64 r.places, vpar, vs], vh] w (RtPost w r hs vp vq w) := rtold_at w r hs P vp vq vpar vs vh w hr (Below.refl _ _) hh hP hP2 hh0 hn hpl hpr hcr
end Go.Proofs.YtgmapikcpnffhaaGreat
namespace Go.Proofs.YtgmapikcpnffhaaGreat
open Go.RowKit Go.Bk Go.Bk.Liv
set_option linter.unusedVariables false
set_option linter.unusedSimpArgs false
theorem Ints.own {w : World} {base : Nat} {v : Value} {l : List Int} (h : w.ownsRow base 3 1 v l.length (i64s l)) (hl : l.length ≤ 1000000) : Ints w v l := by
 have h' := h
 rcases h.2 with ⟨rfl, hn⟩ | ⟨g, cap, cur, rfl, hb, hg, h1, h2, h3, h4⟩
 ·have : l = [] := List.length_eq_zero_iff.1 hn
  subst this
  exact Ints.nil w
 ·exact ⟨_, _, rfl, Bk.Src.of_own h', h1, (fun e => by cases e), by omega, by unfold maxLen at h2; omega⟩
theorem CodeO.c {w : World} {base : Nat} {cs : List Value} {c : CodeD} (h : CodeO w base cs c) (ha : c.args.length ≤ 100) (ho : c.outs.length ≤ 100) (ht : c.to.length ≤ 100) : CodeC w cs c := by
 obtain ⟨a, b, d, e, h0, h1, h2, h3⟩ := h
 exact ⟨a, b, d, e, h0, Ints.own h1 (by omega), Ints.own h2 (by omega), Ints.own h3 (by omega)⟩
theorem srcN_of_own {w : World} {base k : Nat} {e : TypeId} {A : Option Addr} {n c : Nat} {xs : List Value} (h : w.ownsRow base e k (.slice A n c) n xs) : Bk.Src w A (n * k) xs := by
 refine ⟨h.1, fun hn => ?_⟩
 rcases h.2 with ⟨h1, h2⟩ | ⟨g, cap, cur, h1, _, hg, h5, _, h6, h7⟩
 ·subst h2
  simp at hn
 ·injection h1 with h1 h2 h3
  subst h1
  refine ⟨g, 0, rfl, (Array.getElem?_eq_some_iff.1 hg).1, fun j u hu => ?_⟩
  have hj : j < n * k := by
   have := (List.getElem?_eq_some_iff.1 hu).1
   rwa [h.1] at this
  rw [Nat.zero_add]
  have hb : Blk w g e cur := hg
  rw [hb.cell j, ← Array.getElem?_toList]
  rw [← h7, List.getElem?_take, if_pos hj] at hu
  exact hu
theorem CodesO.structs {w : World} {base : Nat} {v : Value} {C : List CodeD} (h : CodesO w base v C) (hl : C.length ≤ 100000) (hC : ∀ c ∈ C, c.args.length ≤ 100 ∧ c.outs.length ≤ 100 ∧ c.to.length ≤ 100) : Structs 5 CodeC w v C := by
 obtain ⟨vs, h1, h2, h3⟩ := h
 obtain ⟨A, c, rfl, hc⟩ := own_shape h1
 have hcm : c ≤ 9223372036854775807 ∧ (A = none → c = 0) := by
  rcases h1.2 with ⟨e, _⟩ | ⟨g, cap, cur, e, _, _, _, h5, _⟩
  ·injection e with e1 e2 e3; subst e1; subst e3; exact ⟨by omega, fun _ => rfl⟩
  ·injection e with e1 e2 e3; subst e1; subst e3; exact ⟨by unfold maxLen at h5; omega, fun e => by cases e⟩
 refine ⟨A, c, vs, rfl, hc, hcm.2, ⟨by omega, hcm.1⟩, h2, fun r hr => ?_, fun i r x q1 q2 => ?_, srcN_of_own h1⟩
 ·obtain ⟨i, hi, rfl⟩ := List.getElem_of_mem hr
  obtain ⟨a, b, d, e, _⟩ := h3 i _ _ (List.getElem?_eq_getElem hi) (List.getElem?_eq_getElem (by omega))
  rw [e]
  rfl
 ·have := hC x (List.mem_of_getElem? q2)
  exact (h3 i r x q1 q2).c this.1 this.2.1 this.2.2
end Go.Proofs.YtgmapikcpnffhaaGreat
namespace Go.Proofs.YtgmapikcpnffhaaGreat
open Go.RowKit Go.Bk Go.Bk.Liv
set_option linter.unusedVariables false
set_option linter.unusedSimpArgs false
theorem CodeR.c {w0 w : World} {base : Nat} {cs : List Value} {c : CodeD} (h : CodeR w0 w base cs c) (hb : Below w0.heap.size w0 w) (ha : c.args.length ≤ 100) (ho : c.outs.length ≤ 100) : CodeC w cs c := by
 obtain ⟨a, b, d, e, h0, h1, h2, h3⟩ := h
 exact ⟨a, b, d, e, h0, Ints.own h1 (by omega), Ints.own h2 (by omega), h3.below hb (Nat.le_refl _)⟩
theorem CodesR.structs {w0 w : World} {base : Nat} {v : Value} {C : List CodeD} (h : CodesR w0 w base v C) (hb : Below w0.heap.size w0 w) (hl : C.length ≤ 100000) (hC : ∀ c ∈ C, c.args.length ≤ 100 ∧ c.outs.length ≤ 100 ∧ c.to.length ≤ 100) : Structs 5 CodeC w v C := by
 obtain ⟨vs, h1, h2, h3⟩ := h
 obtain ⟨A, c, rfl, hc⟩ := own_shape h1
 have hcm : c ≤ 9223372036854775807 ∧ (A = none → c = 0) := by
  rcases h1.2 with ⟨e, _⟩ | ⟨g, cap, cur, e, _, _, _, h5, _⟩
  ·injection e with e1 e2 e3; subst e1; subst e3; exact ⟨by omega, fun _ => rfl⟩
  ·injection e with e1 e2 e3; subst e1; subst e3; exact ⟨by unfold maxLen at h5; omega, fun e => by cases e⟩
 refine ⟨A, c, vs, rfl, hc, hcm.2, ⟨by omega, hcm.1⟩, h2, fun r hr => ?_, fun i r x q1 q2 => ?_, srcN_of_own h1⟩
 ·obtain ⟨i, hi, rfl⟩ := List.getElem_of_mem hr
  obtain ⟨a, b, d, e, _⟩ := h3 i _ _ (List.getElem?_eq_getElem hi) (List.getElem?_eq_getElem (by omega))
  rw [e]
  rfl
 ·have := hC x (List.mem_of_getElem? q2)
  exact (h3 i r x q1 q2).c hb this.1 this.2.1
/-- the lengths that a row that may be has -/
theorem row_lens {e : EnvD} {r : RowD} (hc : CheckP e r) : r.sig.inn.length ≤ 8 ∧ r.sig.out.length ≤ 8 ∧ r.params.length ≤ 8 ∧ r.code.length ≤ 4096 ∧ ∀ c ∈ r.code, c.args.length ≤ 100 ∧ c.outs.length ≤ 100 ∧ c.to.length ≤ 100 := by
 have h1 := sig_len hc.sig
 refine ⟨h1.1, h1.2, by rw [hc.par]; exact h1.1, hc.n2, fun c hcm => ?_⟩
 have hk := hc.code c hcm
 have h2 := code_lens hc hk
 exact ⟨h2.1, h2.2, code_to100 hk⟩
theorem told_lens {r : RowD} {hs : List Int} (h : ∀ c ∈ r.code, c.args.length ≤ 100 ∧ c.outs.length ≤ 100 ∧ c.to.length ≤ 100) : ∀ c ∈ (toldR r hs).code, c.args.length ≤ 100 ∧ c.outs.length ≤ 100 ∧ c.to.length ≤ 100 := by
 intro c hc
 obtain ⟨c0, h0, rfl⟩ := List.mem_map.1 (show c ∈ r.code.map (toldC hs) from hc)
 have := h c0 h0
 exact ⟨by show (toldL hs c0.args).length ≤ 100; rw [toldL_len]; exact this.1, by show (toldL hs c0.outs).length ≤ 100; rw [toldL_len]; exact this.2.1, this.2.2⟩
theorem params_own {w : World} {base : Nat} {p : Value} {r : RowD} {hs : List Int} (h : w.ownsRow base 3 1 p r.params.length (i64s (toldL hs r.params))) (hl : r.params.length ≤ 8) : Ints w p (toldL hs r.params) := by
 rw [← toldL_len hs r.params] at h
 exact Ints.own h (by rw [toldL_len]; omega)
theorem rowV_run {e : EnvD} {r : RowD} {hs : List Int} {w : World} {base : Nat} {a b p d : Value} (hc : CheckP e r) (oa : w.ownsRow base 3 1 a r.sig.inn.length (i64s r.sig.inn)) (ob : w.ownsRow base 3 1 b r.sig.out.length (i64s r.sig.out)) (op : w.ownsRow base 3 1 p r.params.length (i64s (toldL hs r.params))) (oc : CodesO w base d (r.code.map (toldC hs))) :
  RowV w (.agg #[a, b, .int .i64 (topOf hs), p, d]) (toldR r hs) := by
 have hl := row_lens hc
 exact ⟨a, b, p, d, rfl, Ints.own (l := r.sig.inn) oa (show r.sig.inn.length ≤ 1000000 by omega), Ints.own (l := r.sig.out) ob (show r.sig.out.length ≤ 1000000 by omega), params_own op hl.2.2.1, oc.structs (by rw [List.length_map]; omega) (told_lens (hs := hs) hl.2.2.2.2)⟩
theorem told_sm {e : EnvD} {r : RowD} {hs : List Int} (hc : CheckP e r) : (toldR r hs).code.length ≤ 100000 ∧ ((toldR r hs).sig.inn.length ≤ 1000 ∧ (toldR r hs).sig.out.length ≤ 1000 ∧ (toldR r hs).params.length ≤ 1000) ∧ ∀ c ∈ (toldR r hs).code, c.args.length ≤ 100 ∧ c.outs.length ≤ 100 ∧ c.to.length ≤ 100 := by
 have h := row_lens hc
 refine ⟨?_, ⟨?_, ?_, ?_⟩, told_lens h.2.2.2.2⟩
 ·show (r.code.map (toldC hs)).length ≤ 100000
  rw [List.length_map]
  omega
 ·show r.sig.inn.length ≤ 1000
  omega
 ·show r.sig.out.length ≤ 1000
  omega
 ·show (toldL hs r.params).length ≤ 1000
  rw [toldL_len]
  omega
end Go.Proofs.YtgmapikcpnffhaaGreat
