/-
 The document's SameRow: rows that say the same are told to be the same.
 Conditions: both rows say the same.
-/
import Derived.Test.YtgmapikcpnffhaaGreatLivAl
import Derived.Deep.DeepCutAuto
import Derived.BigRegion
namespace Go.Proofs.YtgmapikcpnffhaaGreat
open Go.RowKit Go.Bk Go.Bk.Liv
set_option linter.unusedVariables false
set_option linter.unusedSimpArgs false
/-- two boxes made one behind the other, in a region that draws -/
theorem two_new (w : World) (t : TypeId) (A B : Array Value) : Blk ((w.alloc (.cells A t)).alloc (.cells B t)).drew w.heap.size t A ∧ Blk ((w.alloc (.cells A t)).alloc (.cells B t)).drew (w.heap.size + 1) t B ∧ Below w.heap.size w ((w.alloc (.cells A t)).alloc (.cells B t)).drew :=
 ⟨(Blk.alloc (Blk.new w t A) _).drewN 1, (Blk.newAt (w.alloc (.cells A t)) (N := w.heap.size + 1) t B (by simp)).drewN 1, below_drewN (al2 w _ _) 1⟩
/-- two boxes that were made, one instruction each -/
theorem ll3 {w : World} {g : Nat} {a b c : Value} {x y z : List Int} (h : Blk w g 23 #[a, b, c]) (ha : IR w a x) (hb : IR w b y) (hc : IR w c z) : LL w (.slice (some ⟨g, 0, none⟩) 3 3) [x, y, z] := by
 refine ll_blk (cs := #[a, b, c]) h rfl rfl (fun i u p q1 q2 => ?_)
 match i, q1, q2 with
 | 0, q1, q2 => injection q1 with q1; injection q2 with q2; subst q1; subst q2; exact ha
 | 1, q1, q2 => injection q1 with q1; injection q2 with q2; subst q1; subst q2; exact hb
 | 2, q1, q2 => injection q1 with q1; injection q2 with q2; subst q1; subst q2; exact hc
 | n + 3, q1, q2 => simp at q2
def SmeP (w : World) (en : Ending) (w' : World) : Prop := en = .returned (.bool true) ∧ Below w.heap.size w w'
set_option maxRecDepth 100000 in
set_option maxHeartbeats 4000000 in
theorem same_row (x : RowD) (u v : Value) (w : World) (hu : RowV w u x) (hv : RowV w v x) (hn : x.code.length ≤ 100000) (hs : x.sig.inn.length ≤ 1000 ∧ x.sig.out.length ≤ 1000 ∧ x.params.length ≤ 1000) (hc : ∀ c ∈ x.code, c.args.length ≤ 100 ∧ c.outs.length ≤ 100 ∧ c.to.length ≤ 100) :
  Calls Tryz.prog 15 #[u, v] w (SmeP w) := by
 obtain ⟨a1, b1, p1, d1, rfl, i1, i2, i3, i4⟩ := hu
 obtain ⟨a2, b2, p2, d2, rfl, j1, j2, j3, j4⟩ := hv
 obtain ⟨aA, ac, rfl⟩ := i1.shape
 obtain ⟨bA, bc, rfl⟩ := i2.shape
 obtain ⟨pA, pc, rfl⟩ := i3.shape
 obtain ⟨aB, ad, rfl⟩ := j1.shape
 obtain ⟨bB, bd, rfl⟩ := j2.shape
 obtain ⟨pB, pd, rfl⟩ := j3.shape
 obtain ⟨A1, c1, rfl, _⟩ := i4.len
 obtain ⟨A2, c2, rfl, _⟩ := j4.len
 have HC := Lib.hid hc
 obtain ⟨n, hnn⟩ : ∃ n, x.code.length = n := ⟨_, rfl⟩
 rw [hnn] at hn i4 j4 ⊢
 have HN := Lib.hid hnn
 have I1 := Lib.hid i1.ir
 have I2 := Lib.hid i2.ir
 have I3 := Lib.hid i3.ir
 have I4 := Lib.hid i4
 have J1 := Lib.hid j1.ir
 have J2 := Lib.hid j2.ir
 have J3 := Lib.hid j3.ir
 have J4 := Lib.hid j4
 have HS := Lib.hid hs
 have q0 : ((n : Int) != (n : Int)) = false := by simp
 have q1 : (x.places != x.places) = false := by simp
 clear i1 i2 i3 i4 j1 j2 j3 j4 hc hnn hs
 have HB0 := Lib.hid (al2 w (.cells #[.slice aA x.sig.inn.length ac, .slice bA x.sig.out.length bc, .int .i64 x.places, .slice pA x.params.length pc, .slice A1 n c1] 31) (.cells #[.slice aB x.sig.inn.length ad, .slice bB x.sig.out.length bd, .int .i64 x.places, .slice pB x.params.length pd, .slice A2 n c2] 31))
 have K1 := Lib.hid (Blk.alloc (Blk.new w 31 #[.slice aA x.sig.inn.length ac, .slice bA x.sig.out.length bc, .int .i64 x.places, .slice pA x.params.length pc, .slice A1 n c1]) (.cells #[.slice aB x.sig.inn.length ad, .slice bB x.sig.out.length bd, .int .i64 x.places, .slice pB x.params.length pd, .slice A2 n c2] 31))
 have K2 := Lib.hid (Blk.newAt (w.alloc (.cells #[.slice aA x.sig.inn.length ac, .slice bA x.sig.out.length bc, .int .i64 x.places, .slice pA x.params.length pc, .slice A1 n c1] 31)) (N := w.heap.size + 1) 31 #[.slice aB x.sig.inn.length ad, .slice bB x.sig.out.length bd, .int .i64 x.places, .slice pB x.params.length pd, .slice A2 n c2] (by simp))
 go_enter Tryz.func15, Tryz.ntmps15
 go_wp2_with fail
 have HBl := Lib.hid (al4 w (.cells #[.slice aA x.sig.inn.length ac, .slice bA x.sig.out.length bc, .int .i64 x.places, .slice pA x.params.length pc, .slice A1 n c1] 31) (.cells #[.slice aB x.sig.inn.length ad, .slice bB x.sig.out.length bd, .int .i64 x.places, .slice pB x.params.length pd, .slice A2 n c2] 31) (.cells #[.slice pA x.params.length pc, .slice aA x.sig.inn.length ac, .slice bA x.sig.out.length bc] 23) (.cells #[.slice pB x.params.length pd, .slice aB x.sig.inn.length ad, .slice bB x.sig.out.length bd] 23))
 have KA := Lib.hid (Blk.alloc (Blk.newAt ((w.alloc (.cells #[.slice aA x.sig.inn.length ac, .slice bA x.sig.out.length bc, .int .i64 x.places, .slice pA x.params.length pc, .slice A1 n c1] 31)).alloc (.cells #[.slice aB x.sig.inn.length ad, .slice bB x.sig.out.length bd, .int .i64 x.places, .slice pB x.params.length pd, .slice A2 n c2] 31)) (N := w.heap.size + 1 + 1) 23 #[.slice pA x.params.length pc, .slice aA x.sig.inn.length ac, .slice bA x.sig.out.length bc] (by simp)) (.cells #[.slice pB x.params.length pd, .slice aB x.sig.inn.length ad, .slice bB x.sig.out.length bd] 23))
 have KB := Lib.hid (Blk.newAt (((w.alloc (.cells #[.slice aA x.sig.inn.length ac, .slice bA x.sig.out.length bc, .int .i64 x.places, .slice pA x.params.length pc, .slice A1 n c1] 31)).alloc (.cells #[.slice aB x.sig.inn.length ad, .slice bB x.sig.out.length bd, .int .i64 x.places, .slice pB x.params.length pd, .slice A2 n c2] 31)).alloc (.cells #[.slice pA x.params.length pc, .slice aA x.sig.inn.length ac, .slice bA x.sig.out.length bc] 23)) (N := w.heap.size + 1 + 1 + 1) 23 #[.slice pB x.params.length pd, .slice aB x.sig.inn.length ad, .slice bB x.sig.out.length bd] (by simp))
 (with_reducible refine (Lists_eq _ _ [x.params, x.sig.inn, x.sig.out] _ (ll3 KA.out (I3.out.below HBl.out (Nat.le_refl _)) (I1.out.below HBl.out (Nat.le_refl _)) (I2.out.below HBl.out (Nat.le_refl _))) (ll3 KB.out (J3.out.below HBl.out (Nat.le_refl _)) (J1.out.below HBl.out (Nat.le_refl _)) (J2.out.below HBl.out (Nat.le_refl _))) (by simp) ?_).mono ?_)
 ·intro p hp
  have := HS.out
  simp only [List.mem_cons, List.not_mem_nil, or_false] at hp
  rcases hp with rfl | rfl | rfl <;> omega
 rintro en wL ⟨rfl, q, rfl⟩
 have K1L := Lib.hid ((Blk.alloc (Blk.alloc K1.out (.cells #[.slice pA x.params.length pc, .slice aA x.sig.inn.length ac, .slice bA x.sig.out.length bc] 23)) (.cells #[.slice pB x.params.length pd, .slice aB x.sig.inn.length ad, .slice bB x.sig.out.length bd] 23)).drewN q)
 have K2L := Lib.hid ((Blk.alloc (Blk.alloc K2.out (.cells #[.slice pA x.params.length pc, .slice aA x.sig.inn.length ac, .slice bA x.sig.out.length bc] 23)) (.cells #[.slice pB x.params.length pd, .slice aB x.sig.inn.length ad, .slice bB x.sig.out.length bd] 23)).drewN q)
 have HBL := Lib.hid (below_drewN HBl.out q)
 obtain ⟨wL, hwL⟩ : ∃ wL, ((((w.alloc (.cells #[.slice aA x.sig.inn.length ac, .slice bA x.sig.out.length bc, .int .i64 x.places, .slice pA x.params.length pc, .slice A1 n c1] 31)).alloc (.cells #[.slice aB x.sig.inn.length ad, .slice bB x.sig.out.length bd, .int .i64 x.places, .slice pB x.params.length pd, .slice A2 n c2] 31)).alloc (.cells #[.slice pA x.params.length pc, .slice aA x.sig.inn.length ac, .slice bA x.sig.out.length bc] 23)).alloc (.cells #[.slice pB x.params.length pd, .slice aB x.sig.inn.length ad, .slice bB x.sig.out.length bd] 23)).drewN q = wL := ⟨_, rfl⟩
 rw [hwL] at K1L K2L HBL ⊢
 obtain ⟨sN, hsN⟩ : ∃ s, w.heap.size + 1 = s := ⟨_, rfl⟩
 rw [hsN] at K2L ⊢
 clear hwL HBl HB0 K1 K2 KA KB q0 q1 I1 I2 I3 J1 J2 J3 hsN
 go_wp2_with fail
 go_loopw [5] (fun i wr => ∃ k : Nat, k ≤ n ∧ i = .int .i64 k ∧ Hid (Below wL.heap.size wL wr)) (fun i _ => n - (intOf i).toNat)
 case atStart => exact ⟨0, by omega, rfl, Lib.hid (Below.refl _ _)⟩
 case round =>
  obtain ⟨k, hk, rfl, IU⟩ := hrel
  have k1 := K1L.out.below IU.out K1L.out.lt
  have k2 := K2L.out.below IU.out K2L.out.lt
  obtain ⟨r0, r1, r2, r3, r4⟩ := blk5 k1
  obtain ⟨s0, s1, s2, s3, s4⟩ := blk5 k2
  have y1 := k1.lt
  have y2 := k2.lt
  clear k1 k2 r0 r1 r2 r3 s0 s1 s2 s3
  by_cases hkn : k < n
  ·as_aux_lemma =>
   have t1 : decide ((k : Int) < n) = true := by simp; omega
   have t2 : (k : Int) < n := by omega
   obtain ⟨c, hc⟩ : ∃ c, x.code[k]? = some c := ⟨_, List.getElem?_eq_getElem (by rw [HN.out]; exact hkn)⟩
   have hBw := HBL.out.trans (IU.out.mono HBL.out.size)
   have hcc := HC.out c (List.mem_of_getElem? hc)
   have HCC := Lib.hid hcc
   obtain ⟨cb, co, vp', vq', vt', rfl, hcb, g0, g1, g2, g3, g4, s0, i1, i2, i3⟩ := I4.out.code hc
   obtain ⟨db, dof, up', uq', ut', rfl, hdb, e0, e1, e2, e3, e4, s0', j1, j2, j3⟩ := J4.out.code hc
   replace g0 := (hBw.cell (p := ⟨cb, _, none⟩) hcb).trans g0
   replace g1 := (hBw.cell (p := ⟨cb, _, none⟩) hcb).trans g1
   replace g2 := (hBw.cell (p := ⟨cb, _, none⟩) hcb).trans g2
   replace g3 := (hBw.cell (p := ⟨cb, _, none⟩) hcb).trans g3
   replace g4 := (hBw.cell (p := ⟨cb, _, none⟩) hcb).trans g4
   replace e0 := (hBw.cell (p := ⟨db, _, none⟩) hdb).trans e0
   replace e1 := (hBw.cell (p := ⟨db, _, none⟩) hdb).trans e1
   replace e2 := (hBw.cell (p := ⟨db, _, none⟩) hdb).trans e2
   replace e3 := (hBw.cell (p := ⟨db, _, none⟩) hdb).trans e3
   replace e4 := (hBw.cell (p := ⟨db, _, none⟩) hdb).trans e4
   have z1 : cb < wr.heap.size := by have := hBw.size; omega
   have z2 : db < wr.heap.size := by have := hBw.size; omega
   obtain ⟨u1, v1, rfl⟩ := i1.shape
   obtain ⟨u2, v2, rfl⟩ := i2.shape
   obtain ⟨u3, v3, rfl⟩ := i3.shape
   obtain ⟨u4, v4, rfl⟩ := j1.shape
   obtain ⟨u5, v5, rfl⟩ := j2.shape
   obtain ⟨u6, v6, rfl⟩ := j3.shape
   have J1 := Lib.hid (i1.ir)
   have J2 := Lib.hid (i2.ir)
   have J3 := Lib.hid (i3.ir)
   have L1 := Lib.hid (j1.ir)
   have L2 := Lib.hid (j2.ir)
   have L3 := Lib.hid (j3.ir)
   have HBW := Lib.hid hBw
   clear hc i1 i2 i3 j1 j2 j3 s0 s0' hcc hBw
   go_wp2_with fail
   go_cut [6, 7] (fun f f' wx => ∃ b1 b2 : Nat, f = .pointer (some ⟨b1, 0, none⟩) ∧ f' = .pointer (some ⟨b2, 0, none⟩) ∧ Hid (Blk wx b1 48 #[.int .i64 c.op, .int .u64 (c.n : Int), .slice u1 c.args.length v1, .slice u2 c.outs.length v2, .slice u3 c.to.length v3] ∧ Blk wx b2 48 #[.int .i64 c.op, .int .u64 (c.n : Int), .slice u4 c.args.length v4, .slice u5 c.outs.length v5, .slice u6 c.to.length v6] ∧ Below wr.heap.size wr wx))
   case first =>
    go_region
    all_goals
     go_wp2_with fail
     go_meet
     first
      | with_reducible exact ⟨_, _, rfl, rfl, Lib.hid (two_new wr _ _ _)⟩
      | with_reducible exact ⟨_, _, rfl, rfl, Lib.hid ⟨(two_new wr _ _ _).2.1, (two_new wr _ _ _).1, (two_new wr _ _ _).2.2⟩⟩
   case rest =>
    as_aux_lemma =>
    obtain ⟨b1, b2, rfl, rfl, HU⟩ := hcut
    obtain ⟨w2, rfl⟩ : ∃ w2 : World, w2 = wc := ⟨_, rfl⟩
    obtain ⟨kx, ky, hbx⟩ := HU.out
    clear g0 g1 g2 g3 g4 e0 e1 e2 e3 e4 z1 z2 HU r4 s4 y1 y2
    obtain ⟨g0, g1, g2, g3, g4⟩ := blk5 kx
    obtain ⟨e0, e1, e2, e3, e4⟩ := blk5 ky
    have z1 := kx.lt
    have z2 := ky.lt
    have q0 : (c.op != c.op) = false := by simp
    have q1 : ((c.n : Int) != (c.n : Int)) = false := by simp
    have HBc := Lib.hid (HBW.out.trans (hbx.mono (HBW.out.size)))
    have HBn := Lib.hid (IU.out.trans (hbx.mono IU.out.size))
    have HBm := Lib.hid (HBc.out.trans ((al2 w2 (.cells #[.slice u1 c.args.length v1, .slice u2 c.outs.length v2, .slice u3 c.to.length v3] 23) (.cells #[.slice u4 c.args.length v4, .slice u5 c.outs.length v5, .slice u6 c.to.length v6] 23)).mono HBc.out.size))
    have KA := Lib.hid (Blk.alloc (Blk.new w2 23 #[.slice u1 c.args.length v1, .slice u2 c.outs.length v2, .slice u3 c.to.length v3]) (.cells #[.slice u4 c.args.length v4, .slice u5 c.outs.length v5, .slice u6 c.to.length v6] 23))
    have KB := Lib.hid (Blk.newAt (w2.alloc (.cells #[.slice u1 c.args.length v1, .slice u2 c.outs.length v2, .slice u3 c.to.length v3] 23)) (N := w2.heap.size + 1) 23 #[.slice u4 c.args.length v4, .slice u5 c.outs.length v5, .slice u6 c.to.length v6] (by simp))
    have HBq := Lib.hid (HBn.out.trans ((al2 w2 (.cells #[.slice u1 c.args.length v1, .slice u2 c.outs.length v2, .slice u3 c.to.length v3] 23) (.cells #[.slice u4 c.args.length v4, .slice u5 c.outs.length v5, .slice u6 c.to.length v6] 23)).mono HBn.out.size))
    clear kx ky hbx
    go_wp2_with fail
    (with_reducible refine (Lists_eq _ _ [c.args, c.outs, c.to] _ (ll3 KA.out (J1.out.below HBm.out (Nat.le_refl _)) (J2.out.below HBm.out (Nat.le_refl _)) (J3.out.below HBm.out (Nat.le_refl _))) (ll3 KB.out (L1.out.below HBm.out (Nat.le_refl _)) (L2.out.below HBm.out (Nat.le_refl _)) (L3.out.below HBm.out (Nat.le_refl _))) (by simp) ?_).mono ?_)
    ·intro p hp
     have := HCC.out
     simp only [List.mem_cons, List.not_mem_nil, or_false] at hp
     rcases hp with rfl | rfl | rfl <;> omega
    rintro en w3 ⟨rfl, q, rfl⟩
    have HBr := Lib.hid (below_drewN HBq.out q)
    clear q0 q1 g0 g1 g2 g3 g4 e0 e1 e2 e3 e4 z1 z2 HBq HBm KA KB
    go_wp2_with fail
    exact ⟨⟨k + 1, by omega, by simp, HBr⟩, by simp [intOf]; omega⟩
  ·as_aux_lemma =>
   have t1 : decide ((k : Int) < n) = false := by simp; omega
   have HBX := Lib.hid (HBL.out.trans (IU.out.mono HBL.out.size))
   go_wp2_with fail
   go_ret
   exact ⟨rfl, HBX.out⟩
end Go.Proofs.YtgmapikcpnffhaaGreat
