/-
  Moves, in plain words: what laying moves one behind the other keeps.
  Conditions: none.
-/
import Derived.Test.YtbnfhcdodejmhaaMovPlain
namespace Go.Bk.Mov

/-- fewer moves, the same rings -/
theorem minC_sub {G G' : List Mv} (hf : Fn G) (hf' : Fn G') (hs : ∀ p, p ∈ G' → p ∈ G) (hd : ∀ p, p ∈ G → p ∉ G' → Reach G p.1 p.1 → (p.1, p.1) ∈ G) (x : Int) : MinC G' x ↔ MinC G x := by
  have key : ∀ {a b : Int}, Reach G a b → Reach G a a → (a, a) ∉ G → Reach G' a b := by
    intro a b h
    induction h with
    | @one a b h =>
      intro k1 k2
      exact .one (Classical.byContradiction fun hn => k2 (hd _ h hn k1))
    | @step a b c h r ih =>
      intro k1 k2
      have hin : (a, b) ∈ G' := Classical.byContradiction fun hn => k2 (hd _ h hn k1)
      refine .step hin (ih (k1.cyc_succ hf h) fun hbb => ?_)
      rcases k1.succ hf h with e | rb
      · subst e; exact k2 hbb
      · have := Reach.stuck hf hbb rb
        subst this
        exact k2 h
  constructor
  · rintro ⟨h1, h2, h3⟩
    refine ⟨h1.mono hs, fun h => ?_, fun y hy => h3 y (hy.cyc_up hf hf' hs h1)⟩
    obtain ⟨c, hc⟩ := h1.key
    have e := hf.one (hs _ hc) h
    subst e
    exact h2 hc
  · rintro ⟨h1, h2, h3⟩
    exact ⟨key h1 h1 h2, fun h => h2 (hs _ h), fun y hy => h3 y (hy.mono hs)⟩

/-- moves done one behind the other -/
def upd1 (env : Int → Nat) (t : Int) (v : Nat) : Int → Nat := fun p => if p = t then v else env p
def run1 (out : List Mv) (env : Int → Nat) : Int → Nat := out.foldl (fun e m => upd1 e m.1 (e m.2)) env
theorem run1_snoc (out : List Mv) (m : Mv) (env : Int → Nat) : run1 (out ++ [m]) env = upd1 (run1 out env) m.1 (run1 out env m.2) := by simp [run1]
theorem upd1_at (env : Int → Nat) (t : Int) (v : Nat) : upd1 env t v t = v := by simp [upd1]
theorem upd1_ne (env : Int → Nat) {t p : Int} (v : Nat) (h : p ≠ t) : upd1 env t v p = env p := by simp [upd1, h]

/-- the moves to another place -/
def nontriv (l : List Mv) : List Mv := l.filter fun p => p.1 != p.2
theorem mem_nontriv {l : List Mv} {p : Mv} : p ∈ nontriv l ↔ p ∈ l ∧ p.1 ≠ p.2 := by simp [nontriv]
theorem Fn.filter {l : List Mv} (h : Fn l) (q : Mv → Bool) : Fn (l.filter q) := by
  unfold Fn tos
  exact List.Nodup.sublist ((List.filter_sublist (l := l)).map _) h

/-- places that may be asked for -/
def Okp (l : List Mv) (spare : Int) (n : Nat) (p : Int) : Prop := p ∈ tos l ∨ p ∈ froms l ∨ (p = spare ∧ 0 < n)
theorem Okp.mono {l : List Mv} {spare : Int} {n m : Nat} {p : Int} (h : Okp l spare n p) (hm : n ≤ m) : Okp l spare m p := by
  rcases h with h | h | ⟨h1, h2⟩
  · exact .inl h
  · exact .inr (.inl h)
  · exact .inr (.inr ⟨h1, by omega⟩)

/-- what is kept: F are the moves that are left, out those that are laid, n the rings that were opened -/
structure SInv (l F out : List Mv) (spare : Int) (n : Nat) : Prop where
  fn : Fn F
  sub : ∀ p, p ∈ F → p ∈ l
  ne : ∀ p, p ∈ F → p.1 ≠ p.2
  len : out.length + F.length = (nontriv l).length + n
  ask : ∀ m, m ∈ out → Okp l spare n m.1 ∧ Okp l spare n m.2
  rc : ∃ k, RC F k ∧ RC l (k + n)
  sem : spare ∉ tos l → spare ∉ froms l → ∀ env, (∀ t f, (t, f) ∈ F → run1 out env f = env f) ∧ (∀ t f, (t, f) ∈ l → (t, f) ∉ F → run1 out env t = env f) ∧ ∀ p, p ∉ tos l → p ≠ spare → run1 out env p = env p

theorem SInv.start {l : List Mv} (hf : Fn l) {spare : Int} {k : Nat} (hk : RC l k) : SInv l (nontriv l) [] spare 0 where
  fn := hf.filter _
  sub := fun p hp => (mem_nontriv.1 hp).1
  ne := fun p hp => (mem_nontriv.1 hp).2
  len := by simp
  ask := by simp
  rc := by
    refine ⟨k, hk.congr fun t => (minC_sub hf (hf.filter _) (fun p hp => (mem_nontriv.1 hp).1) (fun p hp hn _ => ?_) t).symm, by simpa using hk⟩
    have : p.1 = p.2 := Classical.byContradiction fun h => hn (mem_nontriv.2 ⟨hp, h⟩)
    obtain ⟨a, b⟩ := p
    simp at this
    subst this
    exact hp
  sem := fun _ _ env => ⟨fun _ _ _ => rfl, fun t f h hn => by
    have : t = f := Classical.byContradiction fun h' => hn (mem_nontriv.2 ⟨h, h'⟩)
    subst this
    rfl, fun _ _ _ => rfl⟩

/-- a move to a place that nobody waits for is laid -/
theorem SInv.free {l F out : List Mv} {spare : Int} {n : Nat} (h : SInv l F out spare n) (hl : Fn l) {t f : Int} (hm : (t, f) ∈ F) (h0 : ∀ a, (a, t) ∉ F) : SInv l (del F t) (out ++ [(t, f)]) spare n where
  fn := h.fn.del t
  sub := fun p hp => h.sub p (mem_del.1 hp).1
  ne := fun p hp => h.ne p (mem_del.1 hp).1
  len := by
    have := del_len h.fn hm
    have := h.len
    simp
    omega
  ask := fun m hm' => by
    rcases List.mem_append.1 hm' with hm' | hm'
    · exact h.ask m hm'
    · simp at hm'
      subst hm'
      exact ⟨.inl (mem_tos (h.sub _ hm)), .inr (.inl (mem_froms (h.sub _ hm)))⟩
  rc := by
    obtain ⟨k, k1, k2⟩ := h.rc
    exact ⟨k, k1.congr fun x => (minC_sub h.fn (h.fn.del t) (fun p hp => (mem_del.1 hp).1) (fun p hp hn hr => by
      have : p.1 = t := Classical.byContradiction fun h' => hn (mem_del.2 ⟨hp, h'⟩)
      rw [this] at hr
      obtain ⟨c, hc⟩ := hr.last
      exact absurd hc (h0 c)) x).symm, k2⟩
  sem := fun s1 s2 env => by
    obtain ⟨e1, e2, e3⟩ := h.sem s1 s2 env
    rw [run1_snoc]
    refine ⟨fun a b hab => ?_, fun a b hab hn => ?_, fun p hp hs => ?_⟩
    · have hb : b ≠ t := fun e => h0 a (e ▸ (mem_del.1 hab).1)
      rw [upd1_ne _ _ hb]
      exact e1 a b (mem_del.1 hab).1
    · by_cases ha : a = t
      · subst ha
        have : b = f := hl.one hab (h.sub _ hm)
        subst this
        rw [upd1_at]
        exact e1 a b hm
      · rw [upd1_ne _ _ ha]
        exact e2 a b hab fun hin => hn (mem_del.2 ⟨hin, ha⟩)
    · have : p ≠ t := fun e => hp (e ▸ mem_tos (h.sub _ hm))
      rw [upd1_ne _ _ this]
      exact e3 p hp hs

/-- all that is left are rings -/
structure Rings (F : List Mv) : Prop where
  closed : ∀ t f, (t, f) ∈ F → f ∈ tos F
  inj : ∀ a b f, (a, f) ∈ F → (b, f) ∈ F → a = b

theorem Rings.nil : Rings [] := ⟨by simp, by simp⟩
theorem inj_of_nodup : ∀ {F : List Mv}, (froms F).Nodup → ∀ a b f, (a, f) ∈ F → (b, f) ∈ F → a = b
  | [], _, _, _, _, h, _ => by simp at h
  | (x, y) :: F, hn, a, b, f, h1, h2 => by
    have hn' : y ∉ froms F ∧ (froms F).Nodup := List.nodup_cons.1 hn
    rcases List.mem_cons.1 h1 with e1 | h1
    · rcases List.mem_cons.1 h2 with e2 | h2
      · simp only [Prod.mk.injEq] at e1 e2
        exact e1.1.trans e2.1.symm
      · simp only [Prod.mk.injEq] at e1
        exact absurd (e1.2 ▸ mem_froms h2) hn'.1
    · rcases List.mem_cons.1 h2 with e2 | h2
      · simp only [Prod.mk.injEq] at e2
        exact absurd (e2.2 ▸ mem_froms h1) hn'.1
      · exact inj_of_nodup hn'.2 a b f h1 h2
/-- each place that waits is waited for: rings -/
theorem rings_of {F : List Mv} (hf : Fn F) (h : ∀ t, t ∈ tos F → t ∈ froms F) : Rings F := by
  have hp := perm_of_sub (tos F) (froms F) hf h (by simp [tos, froms])
  exact ⟨fun t f hm => hp.mem_iff.2 (mem_froms hm), inj_of_nodup (hp.nodup_iff.1 hf)⟩

theorem closed_reach {F F' : List Mv} (hf : Fn F) (hs : ∀ p, p ∈ F' → p ∈ F) (hc : ∀ t f, (t, f) ∈ F' → f ∈ tos F') {x y : Int} (h : Reach F x y) : x ∈ tos F' → y ∈ tos F' ∧ Reach F' x y := by
  induction h with
  | one h =>
    intro hx
    obtain ⟨c, hcx⟩ := of_tos hx
    have e := hf.one h (hs _ hcx)
    subst e
    exact ⟨hc _ _ hcx, .one hcx⟩
  | step h _ ih =>
    intro hx
    obtain ⟨c, hcx⟩ := of_tos hx
    have e := hf.one h (hs _ hcx)
    subst e
    obtain ⟨h1, h2⟩ := ih (hc _ _ hcx)
    exact ⟨h1, .step hcx h2⟩

/-- within a ring: F0 are the moves as it was opened, F those left, at the place that is next -/
structure RInv (l F0 F out : List Mv) (spare first at_ : Int) (n : Nat) : Prop where
  fn0 : Fn F0
  rg : Rings F0
  ne0 : ∀ p, p ∈ F0 → p.1 ≠ p.2
  least : ∀ t, t ∈ tos F0 → first ≤ t
  there : first ∈ tos F0
  sub0 : ∀ p, p ∈ F0 → p ∈ l
  sub : ∀ p, p ∈ F → p ∈ F0
  fn : Fn F
  gone : ∀ p, p ∈ F0 → p ∉ F → p.1 = first ∨ Reach F0 first p.1
  atr : at_ = first ∨ Reach F0 first at_
  atin : at_ ∈ tos F
  clo : ∀ t f, (t, f) ∈ F → f = first ∨ f ∈ tos F
  nor : ∀ t f, (t, f) ∈ F → f = at_ → at_ = first
  fst : first ∈ tos F → at_ = first
  pos : 0 < n
  len : out.length + F.length = (nontriv l).length + n
  ask : ∀ m, m ∈ out → Okp l spare n m.1 ∧ Okp l spare n m.2
  rc : ∃ k, RC F0 k ∧ RC l (k + (n - 1))
  sem : spare ∉ tos l → spare ∉ froms l → ∀ env, run1 out env spare = env first ∧ (∀ t f, (t, f) ∈ F → f ≠ first → run1 out env f = env f) ∧ (∀ t f, (t, f) ∈ l → (t, f) ∉ F → run1 out env t = env f) ∧ ∀ p, p ∉ tos l → p ≠ spare → run1 out env p = env p


/-- a ring is opened -/
theorem SInv.opens {l F out : List Mv} {spare : Int} {n : Nat} (h : SInv l F out spare n) (hr : Rings F) {first : Int} (ht : first ∈ tos F) (hl : ∀ t, t ∈ tos F → first ≤ t) : RInv l F F (out ++ [(spare, first)]) spare first first (n + 1) where
  fn0 := h.fn
  rg := hr
  ne0 := h.ne
  least := hl
  there := ht
  sub0 := h.sub
  sub := fun _ hp => hp
  fn := h.fn
  gone := fun _ h1 h2 => absurd h1 h2
  atr := .inl rfl
  atin := ht
  clo := fun t f hm => .inr (hr.closed t f hm)
  nor := fun _ _ _ e => rfl
  fst := fun _ => rfl
  pos := by omega
  len := by have := h.len; simp; omega
  ask := fun m hm => by
    rcases List.mem_append.1 hm with hm | hm
    · exact ⟨(h.ask m hm).1.mono (by omega), (h.ask m hm).2.mono (by omega)⟩
    · simp at hm
      subst hm
      obtain ⟨f, hf⟩ := of_tos ht
      exact ⟨.inr (.inr ⟨rfl, by omega⟩), .inl (mem_tos (h.sub _ hf))⟩
  rc := by simpa using h.rc
  sem := fun s1 s2 env => by
    obtain ⟨e1, e2, e3⟩ := h.sem s1 s2 env
    obtain ⟨f, hf⟩ := of_tos ht
    have hne : ∀ p, p ∈ tos l → p ≠ spare := fun p hp e => s1 (e ▸ hp)
    have hnf : ∀ p, p ∈ froms l → p ≠ spare := fun p hp e => s2 (e ▸ hp)
    obtain ⟨t0, h0⟩ : ∃ t, (t, first) ∈ F := by
      have hp := perm_of_sub (tos F) (froms F) h.fn (fun t htt => by
        exact Classical.byContradiction fun hn => by
          have hsub : ∀ x, x ∈ froms F → x ∈ (tos F).erase t := fun x hx => by
            obtain ⟨a, ha⟩ := of_froms hx
            exact (List.mem_erase_of_ne (fun e : x = t => hn (e ▸ hx))).2 (hr.closed a x ha)
          have hnd : (froms F).Nodup := by
            have : ∀ {G : List Mv}, Fn G → (∀ a b f, (a, f) ∈ G → (b, f) ∈ G → a = b) → (froms G).Nodup := by
              intro G
              induction G with
              | nil => intro _ _; simp [froms]
              | cons p G ih =>
                intro hfn hinj
                obtain ⟨a, b⟩ := p
                have hn' : a ∉ tos G ∧ (tos G).Nodup := List.nodup_cons.1 hfn
                refine List.nodup_cons.2 ⟨fun hb => ?_, ih hn'.2 fun x y f hx hy => hinj x y f (by simp [hx]) (by simp [hy])⟩
                obtain ⟨c, hc⟩ := of_froms hb
                have := hinj a c b (by simp) (by simp [hc])
                subst this
                exact hn'.1 (mem_tos hc)
            exact this h.fn hr.inj
          have := len_le_of_sub (froms F) ((tos F).erase t) hnd hsub
          have h2 := List.length_erase_of_mem htt
          have h3 : 0 < (tos F).length := List.length_pos_of_mem htt
          simp [tos, froms] at this h2 h3
          omega) (by simp [tos, froms])
      exact of_froms (hp.mem_iff.1 ht)
    rw [run1_snoc]
    refine ⟨?_, fun a b hab hb => ?_, fun a b hab hn => ?_, fun p hp hs => ?_⟩
    · rw [upd1_at]; exact e1 t0 first h0
    · rw [upd1_ne _ _ (hnf b (mem_froms (h.sub _ hab)))]; exact e1 a b hab
    · rw [upd1_ne _ _ (hne a (mem_tos hab))]; exact e2 a b hab hn
    · rw [upd1_ne _ _ hs]; exact e3 p hp hs

/-- the next of a ring -/
theorem RInv.next {l F0 F out : List Mv} {spare first at_ : Int} {n : Nat} (h : RInv l F0 F out spare first at_ n) (hl : Fn l) {nx : Int} (hm : (at_, nx) ∈ F) (hn : nx ≠ first) : RInv l F0 (del F at_) (out ++ [(at_, nx)]) spare first nx n where
  fn0 := h.fn0
  rg := h.rg
  ne0 := h.ne0
  least := h.least
  there := h.there
  sub0 := h.sub0
  sub := fun p hp => h.sub p (mem_del.1 hp).1
  fn := h.fn.del _
  gone := fun p h1 h2 => by
    by_cases e : p ∈ F
    · have : p.1 = at_ := Classical.byContradiction fun h' => h2 (mem_del.2 ⟨e, h'⟩)
      rw [this]
      exact h.atr
    · exact h.gone p h1 e
  atr := by
    rcases h.atr with e | r
    · exact .inr (e ▸ .one (h.sub _ hm))
    · exact .inr (r.snoc (h.sub _ hm))
  atin := by
    rcases h.clo _ _ hm with e | hin
    · exact absurd e hn
    · obtain ⟨g, hg⟩ := of_tos hin
      exact mem_tos (mem_del.2 ⟨hg, fun e => h.ne0 _ (h.sub _ hm) e.symm⟩)
  clo := fun t f htf => by
    obtain ⟨h1, h2⟩ := mem_del.1 htf
    rcases h.clo t f h1 with e | hin
    · exact .inl e
    · by_cases e : f = at_
      · exact .inl (e.trans (h.nor t f h1 e))
      · obtain ⟨g, hg⟩ := of_tos hin
        exact .inr (mem_tos (mem_del.2 ⟨hg, e⟩))
  nor := fun t f htf e => by
    obtain ⟨h1, h2⟩ := mem_del.1 htf
    subst e
    exact absurd (h.rg.inj t at_ f (h.sub _ h1) (h.sub _ hm)) h2
  fst := fun hin => by
    obtain ⟨g, hg⟩ := of_tos hin
    obtain ⟨h1, h2⟩ := mem_del.1 hg
    exact absurd (h.fst (mem_tos h1)).symm h2
  pos := h.pos
  len := by
    have := del_len h.fn hm
    have := h.len
    simp
    omega
  ask := fun m hm' => by
    rcases List.mem_append.1 hm' with hm' | hm'
    · exact h.ask m hm'
    · simp at hm'
      subst hm'
      exact ⟨.inl (mem_tos (h.sub0 _ (h.sub _ hm))), .inr (.inl (mem_froms (h.sub0 _ (h.sub _ hm))))⟩
  rc := h.rc
  sem := fun s1 s2 env => by
    obtain ⟨e0, e1, e2, e3⟩ := h.sem s1 s2 env
    have hlm := h.sub0 _ (h.sub _ hm)
    have has : spare ≠ at_ := fun e => s1 (e ▸ mem_tos hlm)
    rw [run1_snoc]
    refine ⟨?_, fun a b hab hb => ?_, fun a b hab hnn => ?_, fun p hp hs => ?_⟩
    · rw [upd1_ne _ _ has]; exact e0
    · obtain ⟨h1, h2⟩ := mem_del.1 hab
      have : b ≠ at_ := fun e => hb (e.trans (h.nor a b h1 e))
      rw [upd1_ne _ _ this]
      exact e1 a b h1 hb
    · by_cases ha : a = at_
      · subst ha
        have : b = nx := hl.one hab hlm
        subst this
        rw [upd1_at]
        exact e1 a b hm hn
      · rw [upd1_ne _ _ ha]
        exact e2 a b hab fun hin => hnn (mem_del.2 ⟨hin, ha⟩)
    · have : p ≠ at_ := fun e => hp (e ▸ mem_tos hlm)
      rw [upd1_ne _ _ this]
      exact e3 p hp hs

/-- the last of a ring -/
theorem RInv.shut {l F0 F out : List Mv} {spare first at_ : Int} {n : Nat} (h : RInv l F0 F out spare first at_ n) (hl : Fn l) (hm : (at_, first) ∈ F) :
    SInv l (del F at_) (out ++ [(at_, spare)]) spare n ∧ Rings (del F at_) ∧ first ∉ tos (del F at_) ∧ ∀ t, t ∈ tos (del F at_) → t ∈ tos F0 := by
  have hsub : ∀ p, p ∈ del F at_ → p ∈ F0 := fun p hp => h.sub p (mem_del.1 hp).1
  have hclosed : ∀ t f, (t, f) ∈ del F at_ → f ∈ tos (del F at_) := fun t f htf => by
    obtain ⟨h1, h2⟩ := mem_del.1 htf
    have hf : f ≠ first := fun e => by
      subst e
      exact h2 (h.rg.inj t at_ f (h.sub _ h1) (h.sub _ hm))
    rcases h.clo t f h1 with e | hin
    · exact absurd e hf
    · have : f ≠ at_ := fun e => hf (e.trans (h.nor t f h1 e))
      obtain ⟨g, hg⟩ := of_tos hin
      exact mem_tos (mem_del.2 ⟨hg, this⟩)
  have hfirst : first ∉ tos (del F at_) := fun hin => by
    obtain ⟨g, hg⟩ := of_tos hin
    obtain ⟨h1, h2⟩ := mem_del.1 hg
    exact h2 (h.fst (mem_tos h1)).symm
  have hcyc : Reach F0 first first := by
    rcases h.atr with e | r
    · have := h.sub _ hm
      rw [e] at this
      exact .one this
    · exact r.snoc (h.sub _ hm)
  have hne : (first, first) ∉ F0 := fun hh => h.ne0 _ hh rfl
  have hfr : MinC F0 first := ⟨hcyc, hne, fun x hx => by
    obtain ⟨c, hc⟩ := hx.last
    exact h.least x (h.rg.closed c x hc)⟩
  have hiff : ∀ t, MinC F0 t ↔ t = first ∨ MinC (del F at_) t := fun t => by
    constructor
    · rintro ⟨h1, h2, h3⟩
      by_cases hin : t ∈ tos (del F at_)
      · exact .inr ⟨(closed_reach h.fn0 hsub hclosed h1 hin).2, fun hh => h2 (hsub _ hh), fun x hx => h3 x (hx.mono hsub)⟩
      · left
        obtain ⟨c, hc⟩ := h1.key
        have hg : t = first ∨ Reach F0 first t := by
          by_cases hcF : (t, c) ∈ F
          · have : t = at_ := Classical.byContradiction fun h' => hin (mem_tos (mem_del.2 ⟨hcF, h'⟩))
            rw [this]
            exact h.atr
          · exact h.gone _ hc hcF
        rcases hg with e | r
        · exact e
        · have := h3 first (r.back h.fn0 hcyc)
          have := h.least t (mem_tos hc)
          omega
    · rintro (rfl | ⟨h1, h2, h3⟩)
      · exact hfr
      · obtain ⟨c, hc⟩ := h1.key
        have hin := mem_tos hc
        exact ⟨h1.mono hsub, fun hh => h.ne0 _ hh rfl, fun x hx => h3 x (closed_reach h.fn0 hsub hclosed hx hin).2⟩
  have hlm := h.sub0 _ (h.sub _ hm)
  refine ⟨⟨h.fn.del _, fun p hp => h.sub0 _ (hsub p hp), fun p hp => h.ne0 _ (hsub p hp), ?_, fun m hm' => ?_, ?_, fun s1 s2 env => ?_⟩, ⟨hclosed, fun a b f ha hb => h.rg.inj a b f (hsub _ ha) (hsub _ hb)⟩, hfirst, fun t ht => ?_⟩
  · have := del_len h.fn hm
    have := h.len
    simp
    omega
  · rcases List.mem_append.1 hm' with hm' | hm'
    · exact h.ask m hm'
    · simp at hm'
      subst hm'
      exact ⟨.inl (mem_tos hlm), .inr (.inr ⟨rfl, h.pos⟩)⟩
  · obtain ⟨k, ⟨S, s1, s2, s3⟩, k2⟩ := h.rc
    have hS : first ∈ S := (s2 first).2 hfr
    have hp : 0 < S.length := List.length_pos_of_mem hS
    refine ⟨k - 1, ⟨S.erase first, s1.erase _, fun t => ?_, by rw [List.length_erase_of_mem hS]; omega⟩, ?_⟩
    · rw [s1.mem_erase_iff, s2 t, hiff t]
      constructor
      · rintro ⟨h1, h2⟩
        rcases h2 with e | h2
        · exact absurd e h1
        · exact h2
      · intro h2
        refine ⟨fun e => ?_, .inr h2⟩
        subst e
        obtain ⟨c, hc⟩ := h2.1.key
        exact hfirst (mem_tos hc)
    · have := h.pos
      rwa [show k - 1 + n = k + (n - 1) by omega]
  · obtain ⟨e0, e1, e2, e3⟩ := h.sem s1 s2 env
    rw [run1_snoc]
    refine ⟨fun a b hab => ?_, fun a b hab hnn => ?_, fun p hp hs => ?_⟩
    · obtain ⟨h1, h2⟩ := mem_del.1 hab
      have hb : b ≠ first := fun e => by
        subst e
        exact h2 (h.rg.inj a at_ b (h.sub _ h1) (h.sub _ hm))
      have : b ≠ at_ := fun e => hb (e.trans (h.nor a b h1 e))
      rw [upd1_ne _ _ this]
      exact e1 a b h1 hb
    · by_cases ha : a = at_
      · subst ha
        have : b = first := hl.one hab hlm
        subst this
        rw [upd1_at]
        exact e0
      · rw [upd1_ne _ _ ha]
        exact e2 a b hab fun hin => hnn (mem_del.2 ⟨hin, ha⟩)
    · have : p ≠ at_ := fun e => hp (e ▸ mem_tos hlm)
      rw [upd1_ne _ _ this]
      exact e3 p hp hs
  · obtain ⟨c, hc⟩ := of_tos ht
    exact mem_tos (hsub _ hc)
theorem rc_exists {l : List Mv} (hf : Fn l) : ∃ k, RC l k := by
  haveI : ∀ t, Decidable (MinC l t) := fun t => Classical.propDecidable _
  refine ⟨_, (tos l).filter (fun t => decide (MinC l t)), List.Pairwise.filter _ hf, fun t => ?_, rfl⟩
  simp only [List.mem_filter, decide_eq_true_eq]
  exact ⟨fun h => h.2, fun h => ⟨by obtain ⟨c, hc⟩ := h.1.key; exact mem_tos hc, h⟩⟩
end Go.Bk.Mov
