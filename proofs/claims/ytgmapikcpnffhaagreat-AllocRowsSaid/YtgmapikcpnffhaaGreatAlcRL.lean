/-
 AllocRows: a program is told row by row, or refused.
 Conditions: none.
-/
import Derived.Test.YtgmapikcpnffhaaGreatARw
import Derived.Test.YtgmapikcpnffhaaGreatAlcSm
import Derived.Test.YtgmapikcpnffhaaGreatAlcAl
namespace Go.Proofs.YtgmapikcpnffhaaGreat
open List renaming setIfInBounds_toArray → jA, set_cons_zero → jB, set_cons_succ → jC
open Go.RowKit Go.Bk Go.Bk.Liv
set_option linter.unusedVariables false
set_option linter.unusedSimpArgs false
theorem told_prog {p : RowsD} {X : List (RowD × List Int)} (hp : ProgP p) (hm : X.map Prod.fst = p.fns) (hg : ∀ x ∈ X, GivenP x) : ProgP ⟨p.env, X.map fun x => toldR x.1 x.2⟩ where
 env := hp.env
 len := by
  have := congrArg List.length hm
  rw [List.length_map] at this
  have h := hp.len
  show ((X.map fun x => toldR x.1 x.2).length : Int) + p.env.imports = p.env.sigs.length
  rw [List.length_map]
  omega
 row := by
  intro i r hi
  have hi : (X.map fun x => toldR x.1 x.2)[i]? = some r := hi
  rw [List.getElem?_map] at hi
  cases hx : X[i]? with
  | none => rw [hx] at hi; cases hi
  | some x =>
   rw [hx] at hi
   injection hi with hi
   subst hi
   have hf : p.fns[i]? = some x.1 := by rw [← hm, List.getElem?_map, hx]; rfl
   obtain ⟨P, h1, h2, h3⟩ := hg x (List.mem_of_getElem? hx)
   have := hp.row i _ hf
   exact ⟨told_check this.1 h1 h2 h3.toRightP, this.2⟩
/-- a told row in a box -/
def RunB (gr : Nat) (x : RowD) (wr wx : World) : Prop := ∃ a b T q d, Blk wx gr 31 #[a, b, .int .i64 T, q, d] ∧ RowV wx (.agg #[a, b, .int .i64 T, q, d]) x ∧ Below wr.heap.size wr wx
theorem RunB.mk1 {wr wB : World} {x : RowD} {a b q d : Value} {T : Int} (hr : RowV wB (.agg #[a, b, .int .i64 T, q, d]) x) (hb : Below wr.heap.size wr wB) : RunB wB.heap.size x wr (wB.alloc (.cells #[a, b, .int .i64 T, q, d] 31)) :=
 ⟨a, b, T, q, d, Blk.new _ _ _, hr.below ((Below.refl _ _).alloc (Nat.le_refl _) _) (Nat.le_refl _), below_al hb⟩
theorem RunB.mk2 {wr wB : World} {base gz : Nat} {e : EnvD} {r : RowD} {hs : List Int} {a b q d : Value} {c0 c1 c2 c3 c4 : Value} (hc : CheckP e r) (oa : wB.ownsRow base 3 1 a r.sig.inn.length (i64s r.sig.inn)) (ob : wB.ownsRow base 3 1 b r.sig.out.length (i64s r.sig.out)) (op : wB.ownsRow base 3 1 q r.params.length (i64s (toldL hs r.params))) (oc : CodesO wB base d (r.code.map (toldC hs)))
  (hb : Below wr.heap.size wr wB) (kz : Blk wB gz 31 #[c0, c1, c2, c3, c4]) (hz : wr.heap.size ≤ gz) : RunB gz (toldR r hs) wr (((((wB.setCell ⟨gz, 0, none⟩ a).setCell ⟨gz, 1, none⟩ b).setCell ⟨gz, 2, none⟩ (.int .i64 (topOf hs))).setCell ⟨gz, 3, none⟩ q).setCell ⟨gz, 4, none⟩ d) :=
 ⟨a, b, topOf hs, q, d, blk_set5 kz _ _ _ _ _, rowV_run hc (own5 oa kz _ _ _ _ _) (own5 ob kz _ _ _ _ _) (own5 op kz _ _ _ _ _) (oc.other5 kz _ _ _ _ _), below5 hb hz _ _ _ _ _⟩
set_option maxRecDepth 100000 in
set_option maxHeartbeats 16000000 in
theorem AllocRows_walk (p : RowsD) (v : Value) (w : World) (hv : RowsV w v p) : Calls Tryz.prog 8 #[v] w (LawPost w) := by
 have HV := Lib.hid hv
 obtain ⟨a, b, d, f, rfl, h1, h2, h3, h4⟩ := hv
 have HEV := Lib.hid (show EnvV w (.agg #[a, .int .i64 p.env.imports, b, d, .bool p.env.mem]) p.env from ⟨a, b, d, rfl, h1, h2, h3⟩)
 obtain ⟨sA, sc, rfl, _⟩ := h1.len
 obtain ⟨bA, bc, rfl⟩ := h2.shape
 obtain ⟨dA, dc, rfl, _⟩ := id h3
 obtain ⟨fA, fc, rfl, _, hfl, _⟩ := h4.len
 have HS4 := Lib.hid h4
 obtain ⟨n, hn⟩ : ∃ n, p.fns.length = n := ⟨_, rfl⟩
 obtain ⟨im, him⟩ : ∃ i, p.env.imports = i := ⟨_, rfl⟩
 obtain ⟨mm, hmm⟩ : ∃ i, p.env.mem = i := ⟨_, rfl⟩
 rw [hn] at HV HS4 hfl ⊢
 rw [him] at HV HEV ⊢
 rw [hmm] at HV HEV ⊢
 obtain ⟨LS, hLS⟩ : ∃ i, p.env.sigs.length = i := ⟨_, rfl⟩
 obtain ⟨LG, hLG⟩ : ∃ i, p.env.globals.length = i := ⟨_, rfl⟩
 obtain ⟨LM, hLM⟩ : ∃ i, p.env.muts.length = i := ⟨_, rfl⟩
 rw [hLS, hLG, hLM] at HV HEV ⊢
 have HN := Lib.hid hn
 have HLSE := Lib.hid hLS
 clear h1 h2 h3 h4 hn him hmm hLS hLG hLM
 have HB0 := Lib.hid ((Below.refl w.heap.size w).alloc (Nat.le_refl _) (.cells #[.slice sA LS sc, .int .i64 im, .slice bA LG bc, .slice dA LM dc, .bool mm, .slice fA n fc] 52))
 have K0 := Lib.hid (Blk.new w 52 #[.slice sA LS sc, .int .i64 im, .slice bA LG bc, .slice dA LM dc, .bool mm, .slice fA n fc])
 obtain ⟨sz, hsz⟩ : ∃ s, w.heap.size = s := ⟨_, rfl⟩
 have HSZ := Lib.hid hsz
 go_enter Tryz.func8, Tryz.ntmps8
 go_wp2_with fail
 (with_reducible refine (arows_any p _ _ (HV.out.below HB0.out (Nat.le_refl _))).mono ?_)
 rintro en w1 h1
 have hbx : Below (w.alloc (.cells #[.slice sA LS sc, .int .i64 im, .slice bA LG bc, .slice dA LM dc, .bool mm, .slice fA n fc] 52)).heap.size (w.alloc (.cells #[.slice sA LS sc, .int .i64 im, .slice bA LG bc, .slice dA LM dc, .bool mm, .slice fA n fc] 52)) w1 := by
  rcases h1 with ⟨_, _, h⟩ | ⟨_, _, _, h⟩ | ⟨_, _, _, _, _, _, _, _, h⟩ <;> exact h
 have HB1 := Lib.hid (HB0.out.trans (hbx.mono HB0.out.size))
 have K1 := K0.out.below hbx K0.out.lt
 rw [hsz] at K1
 have HK1 := Lib.hid K1
 obtain ⟨e0, e1, e2, e3, e4, e5⟩ := blk6 K1
 have ye := Blk.lt K1
 obtain ⟨s1, hs1⟩ : ∃ s, w1.heap.size = s := ⟨_, rfl⟩
 have HS1 := Lib.hid hs1
 have ye2 : sz < s1 := by omega
 have HYE := Lib.hid ye2
 clear hbx K1 K0 HB0 hsz
 have main : ∀ (A : Option Addr) (na ca : Nat) (im2 : Int) (B : Option Addr) (nb cb : Nat) (D : Option Addr) (nd cd : Nat) (m2 : Bool) (F : Option Addr) (nf cf : Nat) (x : Int) (w2 : World), w1.alloc (.cells #[.slice A na ca, .int .i64 im2, .slice B nb cb, .slice D nd cd, .bool m2, .slice F nf cf] 52) = w2 → Below w.heap.size w w2 ∧ Blk w2 sz 52 #[.slice sA LS sc, .int .i64 im, .slice bA LG bc, .slice dA LM dc, .bool mm, .slice fA n fc] ∧ Blk w2 s1 52 #[.slice A na ca, .int .i64 im2, .slice B nb cb, .slice D nd cd, .bool m2, .slice F nf cf] := fun A na ca im2 B nb cb D nd cd m2 F nf cf x w2 hw2 => by
  have hal : Below w1.heap.size w1 w2 := hw2 ▸ (Below.refl _ _).alloc (Nat.le_refl _) _
  exact ⟨HB1.out.trans (hal.mono HB1.out.size), HK1.out.below hal HK1.out.lt, hw2 ▸ Blk.newAt w1 (N := s1) 52 _ HS1.out⟩
 rcases h1 with ⟨hnp, rfl, _⟩ | ⟨hp, hbig, rfl, _⟩ | ⟨hp, hall, X, v, rfl, hm, hg, hvg, _⟩
 ·as_aux_lemma =>
  have HC := Lib.hid (hnp)
  unfold zRows
  clear hnp
  go_wp2_with fail
  (try simp only [hs1])
  obtain ⟨w2, hw2⟩ : ∃ w2, w1.alloc (.cells #[.slice none 0 0, .int .i64 0, .slice none 0 0, .slice none 0 0, .bool false, .slice none 0 0] 52) = w2 := ⟨_, rfl⟩
  obtain ⟨b2, k2, g2⟩ := main _ _ _ _ _ _ _ _ _ _ _ _ _ _ 0 w2 hw2
  have HB2 := Lib.hid b2
  have HG2 := Lib.hid g2
  (try rw [hw2])
  clear hw2 main b2 k2 g2 e0 e1 e2 e3 e4 e5 ye ye2 hs1
  (with_reducible refine (rrows_any p _ _ (HV.out.below HB2.out (Nat.le_refl _))).mono ?_)
  rintro en w3 ⟨A, na, ca, im2, B, nb, cb, D, nd, cd, m2, F, nf, cf, x, rfl, hx, hb3⟩
  have hx6 : x = 6 := by
   rcases hx with ⟨_, h⟩ | ⟨h, _⟩ | ⟨h, _⟩
   ·exact h
   ·exact absurd h HC.out
   ·exact absurd h HC.out
  subst hx6
  have HB3 := Lib.hid (HB2.out.trans (hb3.mono HB2.out.size))
  have g3 := HG2.out.below hb3 HG2.out.lt
  obtain ⟨e0, e1, e2, e3, e4, e5⟩ := blk6 g3
  have yg := Blk.lt g3
  have HB4 := Lib.hid (below_al (o := .cells #[.slice A na ca, .int .i64 im2, .slice B nb cb, .slice D nd cd, .bool m2, .slice F nf cf] 52) HB3.out)
  clear hx hb3 g3
  go_wp2_with fail
  refine (alive_any _).mono ?_
  rintro en w5 ⟨rfl, hb⟩
  have HB5 := Lib.hid (HB4.out.trans (hb.mono HB4.out.size))
  clear hb
  go_wp2_with fail
  go_ret
  exact ⟨rfl, HB5.out⟩
 ·as_aux_lemma =>
  have HC := Lib.hid (And.intro hp hbig)
  unfold zRows
  clear hp hbig
  go_wp2_with fail
  (try simp only [hs1])
  obtain ⟨w2, hw2⟩ : ∃ w2, w1.alloc (.cells #[.slice none 0 0, .int .i64 0, .slice none 0 0, .slice none 0 0, .bool false, .slice none 0 0] 52) = w2 := ⟨_, rfl⟩
  obtain ⟨b2, k2, g2⟩ := main _ _ _ _ _ _ _ _ _ _ _ _ _ _ 0 w2 hw2
  have HB2 := Lib.hid b2
  have HG2 := Lib.hid g2
  (try rw [hw2])
  clear hw2 main b2 k2 g2 e0 e1 e2 e3 e4 e5 ye ye2 hs1
  (with_reducible refine (rrows_any p _ _ (HV.out.below HB2.out (Nat.le_refl _))).mono ?_)
  rintro en w3 ⟨A, na, ca, im2, B, nb, cb, D, nd, cd, m2, F, nf, cf, x, rfl, hx, hb3⟩
  have hx6 : x = 15 := by
   rcases hx with ⟨h, _⟩ | ⟨_, _, h⟩ | ⟨_, h, _⟩
   ·exact absurd HC.out.1 h
   ·exact h
   ·obtain ⟨r, hr, h2⟩ := HC.out.2
    have := h r hr
    omega
  subst hx6
  have HB3 := Lib.hid (HB2.out.trans (hb3.mono HB2.out.size))
  have g3 := HG2.out.below hb3 HG2.out.lt
  obtain ⟨e0, e1, e2, e3, e4, e5⟩ := blk6 g3
  have yg := Blk.lt g3
  have HB4 := Lib.hid (below_al (o := .cells #[.slice A na ca, .int .i64 im2, .slice B nb cb, .slice D nd cd, .bool m2, .slice F nf cf] 52) HB3.out)
  clear hx hb3 g3
  go_wp2_with fail
  refine (alive_any _).mono ?_
  rintro en w5 ⟨rfl, hb⟩
  have HB5 := Lib.hid (HB4.out.trans (hb.mono HB4.out.size))
  clear hb
  go_wp2_with fail
  go_ret
  exact ⟨rfl, HB5.out⟩
 ·as_aux_lemma =>
  have HPP := Lib.hid hp
  have HAL := Lib.hid hall
  have HM := Lib.hid hm
  have HG := Lib.hid hg
  have hxl : X.length = n := by have := congrArg List.length hm; rw [List.length_map] at this; have := HN.out; omega
  have hgl : (X.map fun x => toldR x.1 x.2).length = n := by rw [List.length_map]; exact hxl
  have HXL := Lib.hid hxl
  have hn64 : n ≤ 64 := by
   have h1 := hp.len
   have h2 := envOk_parts hp.env
   have := HN.out
   omega
  have HVG := Lib.hid hvg
  obtain ⟨ga, gB, gd, gf, rfl, k1, k2, k3, k4⟩ := hvg
  have k1 : Structs 2 SigC w1 ga p.env.sigs := k1
  have k2 : Ints w1 gB p.env.globals := k2
  have k3 : Bools w1 gd p.env.muts := k3
  have k4 : Structs 5 RowC w1 gf (X.map fun x => toldR x.1 x.2) := k4
  obtain ⟨aA, na, rfl, _⟩ := k1.len
  obtain ⟨aB, nb, rfl⟩ := k2.shape
  obtain ⟨aD, nd, rfl, _⟩ := id k3
  obtain ⟨aF, nf, rfl, _⟩ := k4.len
  rw [hgl] at HVG k4 ⊢
  rw [HLSE.out] at HVG ⊢
  obtain ⟨LG2, hLG2⟩ : ∃ i, p.env.globals.length = i := ⟨_, rfl⟩
  obtain ⟨LM2, hLM2⟩ : ∃ i, p.env.muts.length = i := ⟨_, rfl⟩
  obtain ⟨im2, him2⟩ : ∃ i, p.env.imports = i := ⟨_, rfl⟩
  obtain ⟨mm2, hmm2⟩ : ∃ i, p.env.mem = i := ⟨_, rfl⟩
  have HVG : Hid (RowsV w1 (.agg #[.slice aA LS na, .int .i64 im2, .slice aB LG2 nb, .slice aD LM2 nd, .bool mm2, .slice aF n nf]) ⟨p.env, X.map fun x => toldR x.1 x.2⟩) := by
   have h := HVG
   (try rw [hLG2] at h)
   (try rw [hLM2] at h)
   (try simp only [him2] at h)
   (try simp only [hmm2] at h)
   exact h
  have HK4 := Lib.hid k4
  (try simp only [hLG2, hLM2, him2, hmm2])
  clear hp hall hm hg hxl hgl k1 k2 k3 k4 hLG2 hLM2 him2 hmm2
  go_wp2_with fail
  (try simp only [hs1])
  obtain ⟨w2, hw2⟩ : ∃ w2, w1.alloc (.cells #[.slice aA LS na, .int .i64 im2, .slice aB LG2 nb, .slice aD LM2 nd, .bool mm2, .slice aF n nf] 52) = w2 := ⟨_, rfl⟩
  obtain ⟨b2, k2, g2⟩ := main _ _ _ _ _ _ _ _ _ _ _ _ _ _ 0 w2 hw2
  have HB12 := Lib.hid (show Below w1.heap.size w1 w2 from hw2 ▸ (Below.refl _ _).alloc (Nat.le_refl _) _)
  have HB2 := Lib.hid b2
  have HK2 := Lib.hid k2
  have HG2 := Lib.hid g2
  (try rw [hw2])
  clear hw2 main b2 k2 g2 e0 e1 e2 e3 e4 e5 ye ye2 hs1
  (with_reducible refine (rrows_any p _ _ (HV.out.below HB2.out (Nat.le_refl _))).mono ?_)
  rintro en w3 ⟨A, na', ca, im3, B, nb', cb, D, nd', cd, m3, F, nf', cf, x, rfl, hx, hb3⟩
  have hx6 : x = 0 := by
   rcases hx with ⟨h, _⟩ | ⟨_, h, _⟩ | ⟨_, _, h⟩
   ·exact absurd HPP.out h
   ·obtain ⟨r, hr, h2⟩ := h
    have := HAL.out r hr
    omega
   ·exact h
  subst hx6
  have hal := (Below.refl w3.heap.size w3).alloc (Nat.le_refl _) (.cells #[.slice A na' ca, .int .i64 im3, .slice B nb' cb, .slice D nd' cd, .bool m3, .slice F nf' cf] 52)
  have hb24 := hb3.trans (hal.mono hb3.size)
  have HB4 := Lib.hid (HB2.out.trans (hb24.mono HB2.out.size))
  have HB14 := Lib.hid (HB12.out.trans (hb24.mono HB12.out.size))
  have HK4b := Lib.hid (HK2.out.below hb24 HK2.out.lt)
  have HG4 := Lib.hid (HG2.out.below hb24 HG2.out.lt)
  obtain ⟨e0, e1, e2, e3, e4, e5⟩ := blk6 (HG2.out.below hb3 HG2.out.lt)
  have yg := Blk.lt (HG2.out.below hb3 HG2.out.lt)
  obtain ⟨d0, d1, d2, d3, d4, d5⟩ := blk6 (HK2.out.below hb3 HK2.out.lt)
  have yk := Blk.lt (HK2.out.below hb3 HK2.out.lt)
  have q0 : ((n : Int) != (n : Int)) = false := by simp
  have q1 : ((LS : Int) != (LS : Int)) = false := by simp
  clear hx hb3 hal hb24
  go_wp2_with fail
  obtain ⟨w4, hw4⟩ : ∃ w4, w3.alloc (.cells #[.slice A na' ca, .int .i64 im3, .slice B nb' cb, .slice D nd' cd, .bool m3, .slice F nf' cf] 52) = w4 := ⟨_, rfl⟩
  rw [hw4] at HB4 HB14 HK4b HG4 ⊢
  clear hw4 e0 e1 e2 e3 e4 e5 d0 d1 d2 d3 d4 d5 yg yk q0 q1
  (with_reducible refine (RRight_any _ _ _ (HVG.out.below HB14.out (Nat.le_refl _))).mono ?_)
  rintro en w5 ⟨bb, rfl, hbb, hb5⟩
  have hbt : bb = true := hbb.2 (told_prog HPP.out HM.out HG.out)
  subst hbt
  have HB5 := Lib.hid (HB4.out.trans (hb5.mono HB4.out.size))
  have HB15 := Lib.hid (HB14.out.trans (hb5.mono HB14.out.size))
  have HK5 := Lib.hid (HK4b.out.below hb5 HK4b.out.lt)
  have HG5 := Lib.hid (HG4.out.below hb5 HG4.out.lt)
  obtain ⟨e0, e1, e2, e3, e4, e5⟩ := blk6 HG5.out
  have yg := Blk.lt HG5.out
  clear hbb hb5
  go_wp2_with fail
  clear e0 e1 e2 e3 e4 e5 yg
  go_loopw [58] (fun i wr => ∃ k : Nat, k ≤ n ∧ i = .int .i64 k ∧ Hid (Below w5.heap.size w5 wr)) (fun i _ => n - (intOf i).toNat)
  case atStart => exact ⟨0, by omega, rfl, Lib.hid (Below.refl _ _)⟩
  case round =>
   obtain ⟨k, hk, rfl, IU⟩ := hrel
   by_cases hkn : k < n
   ·as_aux_lemma =>
    have t1 : decide ((k : Int) < n) = true := by simp; omega
    have t2 : (k : Int) < n := by omega
    obtain ⟨x, hx⟩ : ∃ x, X[k]? = some x := ⟨_, List.getElem?_eq_getElem (by rw [HXL.out]; exact hkn)⟩
    have HXK := Lib.hid hx
    have hr : p.fns[k]? = some x.1 := by rw [← HM.out, List.getElem?_map, hx]; rfl
    have HRK := Lib.hid hr
    have hgk : (X.map fun x => toldR x.1 x.2)[k]? = some (toldR x.1 x.2) := by rw [List.getElem?_map, hx]; rfl
    have HBw := Lib.hid (HB5.out.trans (IU.out.mono HB5.out.size))
    have HB1w := Lib.hid (HB15.out.trans (IU.out.mono HB15.out.size))
    obtain ⟨fb, fo, x0, x1, x3, x4, rfl, hfb, g0, g1, g2, g3, g4, i1, i2, i3, i4⟩ := HS4.out.row hr
    obtain ⟨hbk, ho, y0, y1, y3, y4, rfl, hhb, l0, l1, l2, l3, l4, j1, j2, j3, j4⟩ := HK4.out.row hgk
    obtain ⟨A0, c0, rfl⟩ := i1.shape
    obtain ⟨A1, c1, rfl⟩ := i2.shape
    obtain ⟨A3, c3, rfl⟩ := i3.shape
    obtain ⟨A4, c4, rfl, _⟩ := i4.len
    have HRV := Lib.hid ((RowV.of i1 i2 i3 i4).below HBw.out (Nat.le_refl _))
    have HTV := Lib.hid ((RowV.of j1 j2 j3 j4).below HB1w.out (Nat.le_refl _))
    have HKr := Lib.hid (HK5.out.below IU.out HK5.out.lt)
    have HGr := Lib.hid (HG5.out.below IU.out HG5.out.lt)
    have hfw : fb < wr.heap.size := by have := HBw.out.size; omega
    have hhw : hbk < wr.heap.size := by have := HB1w.out.size; omega
    have HF := Lib.hid (show ∀ w', Below wr.heap.size wr w' → _ ∧ _ ∧ _ ∧ _ ∧ _ ∧ _ from fun w' hb' => by
     have hc := HBw.out.trans (hb'.mono HBw.out.size)
     exact ⟨(blk6 (HKr.out.below hb' HKr.out.lt)).2.2.2.2.2, (hc.cell (p := ⟨fb, _, none⟩) hfb).trans g0, (hc.cell (p := ⟨fb, _, none⟩) hfb).trans g1, (hc.cell (p := ⟨fb, _, none⟩) hfb).trans g2, (hc.cell (p := ⟨fb, _, none⟩) hfb).trans g3, (hc.cell (p := ⟨fb, _, none⟩) hfb).trans g4⟩)
    have HF2 := Lib.hid (show ∀ w', Below wr.heap.size wr w' → _ ∧ _ ∧ _ ∧ _ ∧ _ from fun w' hb' => by
     have := blk6 (HKr.out.below hb' HKr.out.lt)
     exact ⟨this.1, this.2.1, this.2.2.1, this.2.2.2.1, this.2.2.2.2.1⟩)
    have HF3 := Lib.hid (show ∀ w', Below wr.heap.size wr w' → _ ∧ _ ∧ _ ∧ _ ∧ _ ∧ _ from fun w' hb' => by
     have hc := HB1w.out.trans (hb'.mono HB1w.out.size)
     exact ⟨(blk6 (HGr.out.below hb' HGr.out.lt)).2.2.2.2.2, (hc.cell (p := ⟨hbk, _, none⟩) hhb).trans l0, (hc.cell (p := ⟨hbk, _, none⟩) hhb).trans l1, (hc.cell (p := ⟨hbk, _, none⟩) hhb).trans l2, (hc.cell (p := ⟨hbk, _, none⟩) hhb).trans l3, (hc.cell (p := ⟨hbk, _, none⟩) hhb).trans l4⟩)
    have HCP := Lib.hid (HPP.out.row k x.1 hr).1
    have HGX := Lib.hid (HG.out x (List.mem_of_getElem? hx))
    obtain ⟨r, hrr⟩ : ∃ r, x.1 = r := ⟨_, rfl⟩
    obtain ⟨hs, hhs⟩ : ∃ h, x.2 = h := ⟨_, rfl⟩
    have HGX : Hid (GivenP (r, hs)) := by
     rw [← hrr, ← hhs]
     exact HGX
    rw [hrr] at HRV HTV HCP HF HRK g0 g1 g2 g3 g4
    rw [hhs] at HTV HF3
    (try rw [hrr] at HF3)
    (try rw [hrr] at t2)
    clear hx hr hgk i1 i2 i3 i4 j1 j2 j3 j4 g0 g1 g2 g3 g4 l0 l1 l2 l3 l4 hfb hhb hrr hhs HXK
    go_wp2_with fail
    go_cut [8, 9] (fun f y wx => ∃ gr : Nat, f = .pointer (some ⟨gr, 0, none⟩) ∧ y = .int .i64 0 ∧ Hid (RunB gr (toldR r hs) wr wx))
    case first =>
     as_aux_lemma =>
     refine wp_region_D (fun w' => Below wr.heap.size wr w') (fun _ => True) 7 (by kernel_rfl) (drew_below wr) trivial (fun hD => ?_)
     have HBd := Lib.hid (drew_below wr)
     refine wpAnyD_take (i := 0) (v := ?va0) rfl (by kernel_rfl) (by kernel_rfl) (by kernel_rfl) (fun _ _ _ h => h) rfl (Or.inl ⟨by rfl, ?hya0⟩) hD (fun hD => ?_)
     case hya0 => intro wT hSw; obtain ⟨e5, g0, g1, g2, g3, g4⟩ := HF.out _ hSw; obtain ⟨e0, e1, e2, e3, e4⟩ := HF2.out _ hSw; go_simp; (try with_reducible rfl)
     try simp only [Act.put, jA, jB, jC]
     refine wpAnyD_take (i := 1) (v := ?va1) rfl (by kernel_rfl) (by kernel_rfl) (by kernel_rfl) (fun _ _ _ h => h) rfl (Or.inl ⟨by rfl, ?hya1⟩) hD (fun hD => ?_)
     case hya1 => intro wT hSw; obtain ⟨e5, g0, g1, g2, g3, g4⟩ := HF.out _ hSw; obtain ⟨e0, e1, e2, e3, e4⟩ := HF2.out _ hSw; go_simp; (try with_reducible rfl)
     try simp only [Act.put, jA, jB, jC]
     refine wpAnyD_take (i := 2) (v := ?va2) rfl (by kernel_rfl) (by kernel_rfl) (by kernel_rfl) (fun _ _ _ h => h) rfl (Or.inl ⟨by rfl, ?hya2⟩) hD (fun hD => ?_)
     case hya2 => intro wT hSw; obtain ⟨e5, g0, g1, g2, g3, g4⟩ := HF.out _ hSw; obtain ⟨e0, e1, e2, e3, e4⟩ := HF2.out _ hSw; go_simp; (try with_reducible rfl)
     try simp only [Act.put, jA, jB, jC]
     refine wpAnyD_take (i := 3) (v := ?va3) rfl (by kernel_rfl) (by kernel_rfl) (by kernel_rfl) (fun _ _ _ h => h) rfl (Or.inl ⟨by rfl, ?hya3⟩) hD (fun hD => ?_)
     case hya3 => intro wT hSw; obtain ⟨e5, g0, g1, g2, g3, g4⟩ := HF.out _ hSw; obtain ⟨e0, e1, e2, e3, e4⟩ := HF2.out _ hSw; go_simp; (try with_reducible rfl)
     try simp only [Act.put, jA, jB, jC]
     refine wpAnyD_take (i := 4) (v := ?va4) rfl (by kernel_rfl) (by kernel_rfl) (by kernel_rfl) (fun _ _ _ h => h) rfl (Or.inl ⟨by rfl, ?hya4⟩) hD (fun hD => ?_)
     case hya4 => intro wT hSw; obtain ⟨e5, g0, g1, g2, g3, g4⟩ := HF.out _ hSw; obtain ⟨e0, e1, e2, e3, e4⟩ := HF2.out _ hSw; go_simp; (try with_reducible rfl)
     try simp only [Act.put, jA, jB, jC]
     refine wpAnyD_take (i := 5) (v := ?va5) rfl (by kernel_rfl) (by kernel_rfl) (by kernel_rfl) (fun _ _ _ h => h) rfl (Or.inl ⟨by rfl, ?hya5⟩) hD (fun hD => ?_)
     case hya5 => intro wT hSw; obtain ⟨e5, g0, g1, g2, g3, g4⟩ := HF.out _ hSw; obtain ⟨e0, e1, e2, e3, e4⟩ := HF2.out _ hSw; go_simp; (try with_reducible rfl)
     try simp only [Act.put, jA, jB, jC]
     refine wpAnyD_take (i := 6) (v := ?va6) rfl (by kernel_rfl) (by kernel_rfl) (by kernel_rfl) (fun _ _ _ h => h) rfl (Or.inl ⟨by rfl, ?hya6⟩) hD (fun hD => ?_)
     case hya6 => intro wT hSw; obtain ⟨e5, g0, g1, g2, g3, g4⟩ := HF.out _ hSw; obtain ⟨e0, e1, e2, e3, e4⟩ := HF2.out _ hSw; go_simp; (try with_reducible rfl)
     try simp only [Act.put, jA, jB, jC]
     refine wpAnyD_two (i := 7) (j := 11) (by kernel_rfl) rfl rfl (fun K hK => ?_) (fun K hK => ?_)
     ·as_aux_lemma =>
      go_simp
      (with_reducible refine (run_any p.env r _ _ _ (HEV.out.below (HBw.out.trans (HBd.out.mono HBw.out.size)) (Nat.le_refl _)) (HRV.out.below HBd.out (Nat.le_refl _))).mono ?_)
      rintro en wB (⟨hn, _⟩ | ⟨_, hbig, _⟩ | ⟨_, P', hs', a', b', p', d', hP', hP2', hRX', rfl, oa, ob, op, oc, hb4⟩)
      ·exact absurd HCP.out hn
      ·obtain ⟨P, h1, h2, _⟩ := HGX.out
       have h1 : r.places = P := h1
       omega
      have hhh : hs' = hs := GivenP.one ⟨P', hP', hP2', hRX'⟩ HGX.out
      subst hhh
      have HB4 := Lib.hid (below_step HBd.out hb4)
      have HR4 := Lib.hid (rowV_run HCP.out oa ob op oc)
      have HOW := Lib.hid (And.intro oa (And.intro ob (And.intro op oc)))
      obtain ⟨B1, d1, rfl, _⟩ := own_shape oa
      obtain ⟨B2, d2, rfl, _⟩ := own_shape ob
      obtain ⟨B3, d3, rfl, _⟩ := own_shape op
      obtain ⟨xs4, hxs4⟩ := oc.row
      rw [List.length_map] at hxs4
      obtain ⟨B4, d4, rfl, _⟩ := own_shape hxs4
      clear hb4 oa ob op oc hxs4 hP' hP2' hRX'
      refine hK.out _ _ ⟨HB4.out, fun _ => trivial⟩ (fun hD => ?_)
      clear hK K
      try simp only [Act.put, jA, jB, jC]
      refine wpAnyD_take (i := 8) (v := ?vb8) rfl (by kernel_rfl) (by kernel_rfl) (by kernel_rfl) (fun _ _ _ h => h) rfl (Or.inl ⟨by rfl, ?hyb8⟩) hD (fun hD => ?_)
      case hyb8 => intro wT hSw; go_simp; (try with_reducible rfl)
      try simp only [Act.put, jA, jB, jC]
      refine wpAnyD_take (i := 9) (v := ?vb9) rfl (by kernel_rfl) (by kernel_rfl) (by kernel_rfl) (fun _ _ _ h => h) rfl (Or.inl ⟨by rfl, ?hyb9⟩) hD (fun hD => ?_)
      case hyb9 => intro wT hSw; go_simp; (try with_reducible rfl)
      try simp only [Act.put, jA, jB, jC]
      refine wpAnyD_take (i := 10) (v := ?vb10) rfl (by kernel_rfl) (by kernel_rfl) (by kernel_rfl) (fun _ _ _ h => h) rfl (Or.inl ⟨by rfl, ?hyb10⟩) hD (fun hD => ?_)
      case hyb10 => intro wT hSw; go_simp; (try with_reducible rfl)
      try simp only [Act.put, jA, jB, jC]
      refine wpAnyD_one (i := 11) (by kernel_rfl) rfl (fun K hK => ?_)
      go_simp
      refine hK.out _ _ ⟨below_al HB4.out, fun _ => trivial⟩ (fun hD => ?_)
      clear hK K
      try simp only [Act.put, jA, jB, jC]
      refine wpAnyD_one (i := 12) (by kernel_rfl) rfl (fun K hK => ?_)
      go_simp
      refine hK.out _ _ ⟨below_al HB4.out, fun _ => trivial⟩ (fun hD => ?_)
      clear hK K
      try simp only [Act.put, jA, jB, jC]
      refine wpAnyD_take (i := 13) (v := ?vb13) rfl (by kernel_rfl) (by kernel_rfl) (by kernel_rfl) (fun _ _ _ h => h) rfl (Or.inl ⟨by rfl, ?hyb13⟩) hD (fun hD => ?_)
      case hyb13 => intro wT hSw; go_simp; (try with_reducible rfl)
      try simp only [Act.put, jA, jB, jC]
      refine wpAnyD_done (by kernel_rfl) ?_ _
      go_wp2_with fail
      go_meet
      with_reducible exact ⟨_, rfl, rfl, Lib.hid (RunB.mk1 HR4.out HB4.out)⟩
     ·as_aux_lemma =>
      go_simp
      refine hK.out _ _ ⟨drew_al wr, fun _ => trivial⟩ (fun hD => ?_)
      clear hK K
      try simp only [Act.put, jA, jB, jC]
      refine wpAnyD_one (i := 7) (by kernel_rfl) rfl (fun K hK => ?_)
      go_simp
      (with_reducible refine (run_any p.env r _ _ _ (HEV.out.below (HBw.out.trans ((drew_al wr).mono HBw.out.size)) (Nat.le_refl _)) (HRV.out.below (drew_al wr) (Nat.le_refl _))).mono ?_)
      rintro en wB (⟨hn, _⟩ | ⟨_, hbig, _⟩ | ⟨_, P', hs', a', b', p', d', hP', hP2', hRX', rfl, oa, ob, op, oc, hb4⟩)
      ·exact absurd HCP.out hn
      ·obtain ⟨P, h1, h2, _⟩ := HGX.out
       have h1 : r.places = P := h1
       omega
      have hhh : hs' = hs := GivenP.one ⟨P', hP', hP2', hRX'⟩ HGX.out
      subst hhh
      have HB4 := Lib.hid (below_step (drew_al wr) hb4)
      have HR4 := Lib.hid (rowV_run HCP.out oa ob op oc)
      have HOW := Lib.hid (And.intro oa (And.intro ob (And.intro op oc)))
      obtain ⟨B1, d1, rfl, _⟩ := own_shape oa
      obtain ⟨B2, d2, rfl, _⟩ := own_shape ob
      obtain ⟨B3, d3, rfl, _⟩ := own_shape op
      obtain ⟨xs4, hxs4⟩ := oc.row
      rw [List.length_map] at hxs4
      obtain ⟨B4, d4, rfl, _⟩ := own_shape hxs4
      have kz := Lib.hid (box_afterD hb4)
      clear hb4 oa ob op oc hxs4 hP' hP2' hRX'
      refine hK.out _ _ ⟨HB4.out, fun _ => trivial⟩ (fun hD => ?_)
      clear hK K
      try simp only [Act.put, jA, jB, jC]
      refine wpAnyD_take (i := 8) (v := ?vc8) rfl (by kernel_rfl) (by kernel_rfl) (by kernel_rfl) (fun _ _ _ h => h) rfl (Or.inl ⟨by rfl, ?hyc8⟩) hD (fun hD => ?_)
      case hyc8 => intro wT hSw; go_simp; (try with_reducible rfl)
      try simp only [Act.put, jA, jB, jC]
      refine wpAnyD_take (i := 9) (v := ?vc9) rfl (by kernel_rfl) (by kernel_rfl) (by kernel_rfl) (fun _ _ _ h => h) rfl (Or.inl ⟨by rfl, ?hyc9⟩) hD (fun hD => ?_)
      case hyc9 => intro wT hSw; go_simp; (try with_reducible rfl)
      try simp only [Act.put, jA, jB, jC]
      refine wpAnyD_take (i := 10) (v := ?vc10) rfl (by kernel_rfl) (by kernel_rfl) (by kernel_rfl) (fun _ _ _ h => h) rfl (Or.inl ⟨by rfl, ?hyc10⟩) hD (fun hD => ?_)
      case hyc10 => intro wT hSw; go_simp; (try with_reducible rfl)
      try simp only [Act.put, jA, jB, jC]
      obtain ⟨z0, z1, z2, z3, z4⟩ := blk5 kz.out
      have f0 := frz kz.out 0
      have f1 := frz kz.out 1
      have f2 := frz kz.out 2
      have f3 := frz kz.out 3
      have f4 := frz kz.out 4
      have yz := Blk.lt kz.out
      refine wpAnyD_one (i := 12) (by kernel_rfl) rfl (fun K hK => ?_)
      go_simp
      refine hK.out _ _ ⟨below5 HB4.out (Nat.le_refl _) _ _ _ _ _, fun _ => trivial⟩ (fun hD => ?_)
      clear hK K
      try simp only [Act.put, jA, jB, jC]
      refine wpAnyD_take (i := 13) (v := ?vc13) rfl (by kernel_rfl) (by kernel_rfl) (by kernel_rfl) (fun _ _ _ h => h) rfl (Or.inl ⟨by rfl, ?hyc13⟩) hD (fun hD => ?_)
      case hyc13 => intro wT hSw; go_simp; (try with_reducible rfl)
      try simp only [Act.put, jA, jB, jC]
      refine wpAnyD_done (by kernel_rfl) ?_ _
      go_wp2_with fail
      go_meet
      with_reducible exact ⟨_, rfl, rfl, Lib.hid (RunB.mk2 HCP.out HOW.out.1 HOW.out.2.1 HOW.out.2.2.1 HOW.out.2.2.2 HB4.out kz.out (Nat.le_refl _))⟩
    case rest =>
     as_aux_lemma =>
     obtain ⟨w6, rfl⟩ : ∃ w6 : World, w6 = wc := ⟨_, rfl⟩
     obtain ⟨gr, rfl, rfl, HU⟩ := hcut
     obtain ⟨a', b', T, q', d', kr, hrv, hb6⟩ := HU.out
     have HB6 := Lib.hid hb6
     have HKR := Lib.hid kr
     have HRR := Lib.hid hrv
     clear kr hrv hb6 HU
     go_wp2_with fail
     refine wp_region_D (fun w' => Below w6.heap.size w6 w') (fun _ => True) 9 (by kernel_rfl) (drew_below w6) trivial (fun hD => ?_)
     have HBd := Lib.hid (drew_below w6)
     refine wpAnyD_take (i := 0) (v := ?vd0) rfl (by kernel_rfl) (by kernel_rfl) (by kernel_rfl) (fun _ _ _ h => h) rfl (Or.inl ⟨by rfl, ?hyd0⟩) hD (fun hD => ?_)
     case hyd0 => intro wT hSw; go_simp; (try with_reducible rfl)
     try simp only [Act.put, jA, jB, jC]
     refine wpAnyD_take (i := 1) (v := ?vd1) rfl (by kernel_rfl) (by kernel_rfl) (by kernel_rfl) (fun _ _ _ h => h) rfl (Or.inl ⟨by rfl, ?hyd1⟩) hD (fun hD => ?_)
     case hyd1 => intro wT hSw; go_simp; (try with_reducible rfl)
     try simp only [Act.put, jA, jB, jC]
     refine wpAnyD_take (i := 2) (v := ?vd2) rfl (by kernel_rfl) (by kernel_rfl) (by kernel_rfl) (fun _ _ _ h => h) rfl (Or.inl ⟨by rfl, ?hyd2⟩) hD (fun hD => ?_)
     case hyd2 => intro wT hSw; go_simp; (try with_reducible rfl)
     try simp only [Act.put, jA, jB, jC]
     refine wpAnyD_take (i := 3) (v := ?vd3) rfl (by kernel_rfl) (by kernel_rfl) (by kernel_rfl) (fun _ _ _ h => h) rfl (Or.inl ⟨by rfl, ?hyd3⟩) hD (fun hD => ?_)
     case hyd3 => intro wT hSw; obtain ⟨e5, l0, l1, l2, l3, l4⟩ := HF3.out _ (HB6.out.trans (hSw.mono HB6.out.size)); obtain ⟨r0, r1, r2, r3, r4⟩ := blk5 (HKR.out.below hSw HKR.out.lt); go_simp; (try with_reducible rfl)
     try simp only [Act.put, jA, jB, jC]
     refine wpAnyD_take (i := 4) (v := ?vd4) rfl (by kernel_rfl) (by kernel_rfl) (by kernel_rfl) (fun _ _ _ h => h) rfl (Or.inl ⟨by rfl, ?hyd4⟩) hD (fun hD => ?_)
     case hyd4 => intro wT hSw; obtain ⟨e5, l0, l1, l2, l3, l4⟩ := HF3.out _ (HB6.out.trans (hSw.mono HB6.out.size)); obtain ⟨r0, r1, r2, r3, r4⟩ := blk5 (HKR.out.below hSw HKR.out.lt); go_simp; (try with_reducible rfl)
     try simp only [Act.put, jA, jB, jC]
     refine wpAnyD_take (i := 5) (v := ?vd5) rfl (by kernel_rfl) (by kernel_rfl) (by kernel_rfl) (fun _ _ _ h => h) rfl (Or.inl ⟨by rfl, ?hyd5⟩) hD (fun hD => ?_)
     case hyd5 => intro wT hSw; obtain ⟨e5, l0, l1, l2, l3, l4⟩ := HF3.out _ (HB6.out.trans (hSw.mono HB6.out.size)); obtain ⟨r0, r1, r2, r3, r4⟩ := blk5 (HKR.out.below hSw HKR.out.lt); go_simp; (try with_reducible rfl)
     try simp only [Act.put, jA, jB, jC]
     refine wpAnyD_take (i := 6) (v := ?vd6) rfl (by kernel_rfl) (by kernel_rfl) (by kernel_rfl) (fun _ _ _ h => h) rfl (Or.inl ⟨by rfl, ?hyd6⟩) hD (fun hD => ?_)
     case hyd6 => intro wT hSw; obtain ⟨e5, l0, l1, l2, l3, l4⟩ := HF3.out _ (HB6.out.trans (hSw.mono HB6.out.size)); obtain ⟨r0, r1, r2, r3, r4⟩ := blk5 (HKR.out.below hSw HKR.out.lt); go_simp; (try with_reducible rfl)
     try simp only [Act.put, jA, jB, jC]
     refine wpAnyD_take (i := 7) (v := ?vd7) rfl (by kernel_rfl) (by kernel_rfl) (by kernel_rfl) (fun _ _ _ h => h) rfl (Or.inl ⟨by rfl, ?hyd7⟩) hD (fun hD => ?_)
     case hyd7 => intro wT hSw; obtain ⟨e5, l0, l1, l2, l3, l4⟩ := HF3.out _ (HB6.out.trans (hSw.mono HB6.out.size)); obtain ⟨r0, r1, r2, r3, r4⟩ := blk5 (HKR.out.below hSw HKR.out.lt); go_simp; (try with_reducible rfl)
     try simp only [Act.put, jA, jB, jC]
     refine wpAnyD_take (i := 8) (v := ?vd8) rfl (by kernel_rfl) (by kernel_rfl) (by kernel_rfl) (fun _ _ _ h => h) rfl (Or.inl ⟨by rfl, ?hyd8⟩) hD (fun hD => ?_)
     case hyd8 => intro wT hSw; obtain ⟨e5, l0, l1, l2, l3, l4⟩ := HF3.out _ (HB6.out.trans (hSw.mono HB6.out.size)); obtain ⟨r0, r1, r2, r3, r4⟩ := blk5 (HKR.out.below hSw HKR.out.lt); go_simp; (try with_reducible rfl)
     try simp only [Act.put, jA, jB, jC]
     refine wpAnyD_one (i := 9) (by kernel_rfl) rfl (fun K hK => ?_)
     go_simp
     (with_reducible refine (same_row (toldR r hs) _ _ _ (HRR.out.below HBd.out (Nat.le_refl _)) (HTV.out.below (HB6.out.trans (HBd.out.mono HB6.out.size)) (Nat.le_refl _)) (told_sm HCP.out).1 (told_sm HCP.out).2.1 (told_sm HCP.out).2.2).mono ?_)
     rintro en w7 ⟨rfl, hb⟩
     have HB7 := Lib.hid (HBd.out.trans (hb.mono HBd.out.size))
     clear hb
     refine hK.out _ _ ⟨HB7.out, fun _ => trivial⟩ (fun hD => ?_)
     clear hK K
     try simp only [Act.put, jA, jB, jC]
     refine wpAnyD_take (i := 10) (v := ?ve10) rfl (by kernel_rfl) (by kernel_rfl) (by kernel_rfl) (fun _ _ _ h => h) rfl (Or.inl ⟨by rfl, ?hye10⟩) hD (fun hD => ?_)
     case hye10 => intro wT hSw; go_simp; (try with_reducible rfl)
     try simp only [Act.put, jA, jB, jC]
     refine wpAnyD_take (i := 11) (v := ?ve11) rfl (by kernel_rfl) (by kernel_rfl) (by kernel_rfl) (fun _ _ _ h => h) rfl (Or.inl ⟨by rfl, ?hye11⟩) hD (fun hD => ?_)
     case hye11 => intro wT hSw; go_simp; (try with_reducible rfl)
     try simp only [Act.put, jA, jB, jC]
     refine wpAnyD_done (by kernel_rfl) ?_ _
     have HNX := Lib.hid (IU.out.trans ((HB6.out.trans (HB7.out.mono HB6.out.size)).mono IU.out.size))
     go_wp2_with fail
     with_reducible exact ⟨⟨k + 1, by omega, by simp, HNX⟩, by simp [intOf]; omega⟩
   ·as_aux_lemma =>
    have t1 : decide ((k : Int) < n) = false := by simp; omega
    have HBX := Lib.hid (HB5.out.trans (IU.out.mono HB5.out.size))
    go_wp2_with fail
    refine (alive_any _).mono ?_
    rintro en w8 ⟨rfl, hb⟩
    have HB8 := Lib.hid (HBX.out.trans (hb.mono HBX.out.size))
    clear hb
    go_wp2_with fail
    go_ret
    exact ⟨rfl, HB8.out⟩
end Go.Proofs.YtgmapikcpnffhaaGreat
