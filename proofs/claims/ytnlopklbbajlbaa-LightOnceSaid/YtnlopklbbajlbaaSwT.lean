/- LightOnce: the trace while a phase runs: who knows which touch; a lock, a once, a go statement, a join. -/
import Derived.Conc.LockTrace
import Derived.Conc.Beside
namespace Go.Proofs.Ytnlopklbbajlbaa.Sw
open Go Go.Conc Go.ConcN
open Go.ConcR (stA smA)

/-- What stands fixed while a phase runs: the goroutines ahead of it (0 .. e), the trace's length at its beginning, the blocks: the alerts, the group, the answers; all blocks below Low were there. -/
structure TC where
  e : Nat
  p0 : Nat
  A : Nat
  Wg : Nat
  F : Nat
  Low : Nat
  n : Nat
  W : Nat
  Shun : Loc → Prop
  M0 : Option Nat
  aF : A ≠ F
  aW : A ≠ Wg
  fW : F ≠ Wg
  la : A < Low
  lf : F < Low
  lw : Wg < Low
  lm : ∀ m, M0 = some m → m < Low

section
variable (c : TC)
def dnA : Addr := ⟨c.A, 0, none⟩
def seA : Addr := ⟨c.A, 5, none⟩
def mxA (b : Bool) : Addr := ⟨c.A, if b then 1 else 3, none⟩
def AtL (l : Loc) : Prop := ∃ a, l = .cell a ∧ (a.block = c.Wg ∨ (a.block = c.A ∧ a ≠ seA c))
def FcL (k : Nat) : Loc := .cell ⟨c.F, k, none⟩
def GdL (mo : Option Nat) (l : Loc) : Prop := l = .cell (seA c) ∨ ∃ m, mo = some m ∧ l = .obj m
def RoL (l : Loc) : Prop := ∃ a, l = .cell a ∧ a.block < c.Low ∧ a.block ≠ c.Wg ∧ a.block ≠ c.A ∧ a.block ≠ c.F ∧ ¬ c.Shun l
def BxL (b : Nat) (l : Loc) : Prop := ∃ a, l = .cell a ∧ a.block = b
/-- Started: the starter, or a worker of this phase. -/
def Sd (j g : Nat) : Prop := g = 0 ∨ (c.e < g ∧ g ≤ c.e + j)
/-- Who owns answer number k. -/
def ow (j k : Nat) : Nat := if k % c.W < j then c.e + 1 + k % c.W else 0
/-- Plain releases of these are never said. -/
def NoRel (x : MemAct) : Prop := x ≠ .mark (.release (mxA c true)) ∧ x ≠ .mark (.release (mxA c false)) ∧ x ≠ .mark (.release (stA c.Wg))

def FreeT (t : Trace) (j : Nat) (dn : Bool) (pdo : Option Nat) (i : Nat) : Prop :=
  (∀ g, Sd c j g → Knows t g i) ∨ (dn = true ∧ ((∃ pd, pdo = some pd ∧ Before t i pd) ∨ ∃ p, c.p0 ≤ p ∧ t.act? p = some (.mark (.releaseMerge (mxA c false))) ∧ t.heard p ∧ Before t i p))

structure TT (j : Nat) (mo own pdo : Option Nat) (dn : Bool) (bx : Nat → Option Nat) (t : Trace) : Prop where
  nr : ∀ said, ¬ Race said t
  gs : ∀ (i : Nat) (op : MemOp), c.p0 ≤ i → t[i]? = some op → op.g ≤ c.e + j
  at_ : ∀ i x, touchAt t i = some x → AtL c x.loc → x.kind = .atomic ∨ (x.kind = .said ∧ Knows t 0 i) ∨ (∀ g, Sd c j g → Knows t g i)
  ro : ∀ i x, touchAt t i = some x → RoL c x.loc → x.write = true → ∀ g, Sd c j g → Knows t g i
  bxs : ∀ g b, Sd c j g → bx g = some b → ∀ i x, touchAt t i = some x → BxL b x.loc → Knows t g i
  fr : ∀ k, k < c.n → Perm t (ow c j k) (FcL c k)
  gd : match own with
    | some g => Sd c j g ∧ ∀ l, GdL c mo l → Perm t g l
    | none => ∀ l, GdL c mo l → ∀ i x, touchAt t i = some x → x.loc = l → FreeT c t j dn pdo i
  pd : ∀ pd, pdo = some pd → t.act? pd = some (.access ⟨.cell (dnA c), true, true⟩) ∧ t.heard pd ∧ ∀ k sync, pd < k → t.act? k ≠ some (.access ⟨.cell (dnA c), true, sync⟩)
  norel : ∀ k x, c.p0 ≤ k → t.act? k = some x → NoRel c x
  past : ∀ i x, touchAt t i = some x → x.loc.isMemory = true → Knows t 0 i ∨ (c.Shun x.loc ∧ x.kind = .atomic) ∨ (c.p0 ≤ i ∧ ∃ g, c.e < g ∧ t.g? i = some g)
  over : ∀ i g, t.g? i = some g → g ≠ 0 → (g ≤ c.e ∨ i < c.p0) → t.counts i → ∃ q, t.g? q = some 0 ∧ HappensBefore t i q
  sz : c.p0 ≤ t.size

/-- What goroutine g may do between the steps that pass ownership. -/
def OkT (j : Nat) (mo own pdo : Option Nat) (bx : Nat → Option Nat) (g : Nat) (op : MemOp) : Prop :=
  op.g = g ∧ NoRel c op.act ∧ ∀ x, op.act.touch? = some x →
    (AtL c x.loc ∧ x.kind = .atomic ∧ (x.write = true → pdo ≠ none → x.loc ≠ .cell (dnA c))) ∨ (AtL c x.loc ∧ x.kind = .said ∧ g = 0) ∨ (RoL c x.loc ∧ x.write = false) ∨ (∃ b, bx g = some b ∧ BxL b x.loc) ∨
    (∃ k, k < c.n ∧ x.loc = FcL c k ∧ ow c j k = g) ∨ (GdL c mo x.loc ∧ own = some g)
end

section
variable {c : TC} {j : Nat} {mo own pdo : Option Nat} {dn : Bool} {bx : Nat → Option Nat} {t u : Trace} {g : Nat}

theorem FreeT.app {i : Nat} (h : FreeT c t j dn pdo i) (u : Trace) : FreeT c (t ++ u) j dn pdo i := by
  rcases h with h | ⟨hd, ⟨pd, h1, h2⟩ | ⟨p, h1, h2, h3, h4⟩⟩
  · exact .inl fun g hg => (h g hg).app u
  · exact .inr ⟨hd, .inl ⟨pd, h1, h2.app u⟩⟩
  · have hp := lt_of_act? h2
    exact .inr ⟨hd, .inr ⟨p, h1, by rw [act?_old hp]; exact h2, (heard_old hp).2 h3, h4.app u⟩⟩

/-- The classes lie apart. -/
structure Sep (c : TC) (j : Nat) (bx : Nat → Option Nat) : Prop where
  bxLow : ∀ g b, Sd c j g → bx g = some b → c.Low ≤ b
  bxInj : ∀ g g' b, Sd c j g → Sd c j g' → bx g = some b → bx g' = some b → g = g'

theorem touch_cases {i : Nat} {x : Touch} (h : touchAt (t ++ u) i = some x) : (i < t.size ∧ touchAt t i = some x) ∨ (∃ op, op ∈ u ∧ (t ++ u)[i]? = some op ∧ op.act.touch? = some x) := by
  obtain ⟨op, ho, hox⟩ := touch_of h
  rcases getElem?_append_cases ho with ⟨hi, ho'⟩ | ⟨_, hou⟩
  · exact .inl ⟨hi, by rw [touchAt_of ho']; exact hox⟩
  · exact .inr ⟨op, hou, ho, hox⟩

theorem touch_ge {i : Nat} {x : Touch} (h : touchAt (t ++ u) i = some x) : (i < t.size ∧ touchAt t i = some x) ∨ (t.size ≤ i ∧ ∃ op, op ∈ u ∧ (t ++ u)[i]? = some op ∧ op.act.touch? = some x) := by
  obtain ⟨op, ho, hox⟩ := touch_of h
  rcases getElem?_append_cases ho with ⟨hi, ho'⟩ | ⟨hi, hou⟩
  · exact .inl ⟨hi, by rw [touchAt_of ho']; exact hox⟩
  · exact .inr ⟨hi, op, hou, ho, hox⟩

theorem AtL.notRo {l : Loc} (h : AtL c l) : ¬ RoL c l := by
  rintro ⟨a', h1, h2, h3, h4, h5, _⟩
  obtain ⟨a, h6, h7⟩ := h
  rw [h6] at h1
  cases h1
  rcases h7 with h7 | h7
  · exact h3 h7
  · exact h4 h7.1
theorem AtL.notFc {l : Loc} (h : AtL c l) (k : Nat) : l ≠ FcL c k := by
  rintro rfl
  obtain ⟨a, h6, h7⟩ := h
  cases h6
  rcases h7 with h7 | h7
  · exact c.fW h7
  · exact c.aF h7.1.symm
theorem AtL.notGd {l : Loc} (h : AtL c l) : ¬ GdL c mo l := by
  obtain ⟨a, h6, h7⟩ := h
  rintro (h1 | ⟨m, _, h1⟩)
  · rw [h6] at h1
    cases h1
    rcases h7 with h7 | h7
    · exact c.aW h7
    · exact h7.2 rfl
  · rw [h6] at h1; cases h1
theorem AtL.notBx {l : Loc} (h : AtL c l) {b : Nat} (hb : c.Low ≤ b) : ¬ BxL b l := by
  rintro ⟨a', h1, h2⟩
  obtain ⟨a, h6, h7⟩ := h
  rw [h6] at h1
  cases h1
  have := c.la
  have := c.lw
  rcases h7 with h7 | h7
  · omega
  · have := h7.1; omega
theorem RoL.notFc {l : Loc} (h : RoL c l) (k : Nat) : l ≠ FcL c k := by
  rintro rfl
  obtain ⟨a, h1, h2, h3, h4, h5, _⟩ := h
  cases h1
  exact h5 rfl
theorem RoL.notGd {l : Loc} (h : RoL c l) : ¬ GdL c mo l := by
  obtain ⟨a, h1, h2, h3, h4, h5, _⟩ := h
  rintro (h6 | ⟨m, _, h6⟩)
  · rw [h6] at h1; cases h1; exact h4 rfl
  · rw [h6] at h1; cases h1
theorem RoL.notBx {l : Loc} (h : RoL c l) {b : Nat} (hb : c.Low ≤ b) : ¬ BxL b l := by
  obtain ⟨a, h1, h2, _⟩ := h
  rintro ⟨a', h3, h4⟩
  rw [h1] at h3
  cases h3
  omega
theorem FcL.notGd (k : Nat) : ¬ GdL c mo (FcL c k) := by
  rintro (h | ⟨m, _, h⟩)
  · have := c.aF
    simp only [FcL, seA, Loc.cell.injEq, Addr.mk.injEq] at h
    exact this h.1.symm
  · cases h
theorem FcL.notBx (k : Nat) {b : Nat} (hb : c.Low ≤ b) : ¬ BxL b (FcL c k) := by
  rintro ⟨a, h1, h2⟩
  cases h1
  have := c.lf
  simp only at h2
  omega
theorem GdL.notBx {l : Loc} (h : GdL c mo l) {b : Nat} (hb : c.Low ≤ b) : ¬ BxL b l := by
  rintro ⟨a, h1, h2⟩
  rcases h with h | ⟨m, _, h⟩
  · rw [h] at h1; cases h1
    have := c.la
    simp only [seA] at h2
    omega
  · rw [h] at h1; cases h1
theorem FcL.inj {k k' : Nat} (h : FcL c k = FcL c k') : k = k' := by simpa [FcL] using h

theorem over_app (hsz : c.p0 ≤ t.size) (h : ∀ i g, t.g? i = some g → g ≠ 0 → (g ≤ c.e ∨ i < c.p0) → t.counts i → ∃ q, t.g? q = some 0 ∧ HappensBefore t i q) (hu : ∀ op ∈ u, op.g = 0 ∨ c.e < op.g ∨ op.act.touch? = none) :
    ∀ i g, (t ++ u).g? i = some g → g ≠ 0 → (g ≤ c.e ∨ i < c.p0) → (t ++ u).counts i → ∃ q, (t ++ u).g? q = some 0 ∧ HappensBefore (t ++ u) i q := by
  intro i g hg h0 he hc
  obtain ⟨op, ho, hog⟩ := Option.map_eq_some_iff.1 hg
  rcases getElem?_append_cases ho with ⟨hi, ho'⟩ | ⟨hge, hou⟩
  · obtain ⟨q, h1, h2⟩ := h i g (by rw [← g?_old (u := u) hi]; exact hg) h0 he ((counts_old hi).1 hc)
    have hq : q < t.size := by
      obtain ⟨z, hz, _⟩ := Option.map_eq_some_iff.1 h1
      exact lt_size_of_getElem? hz
    exact ⟨q, by rw [g?_old hq]; exact h1, hb_app u h2⟩
  · rcases hu op hou with h1 | h1 | h1
    · omega
    · omega
    · obtain ⟨x, hx, _⟩ := hc
      obtain ⟨op', ho', hx'⟩ := touch_of hx
      rw [ho] at ho'
      cases ho'
      rw [h1] at hx'
      cases hx'

/-- ████ A STEP THAT PASSES NO OWNERSHIP. ████ -/
theorem TT.app (h : TT c j mo own pdo dn bx t) (S : Sep c j bx) (hg : Sd c j g) (hu : ∀ op ∈ u, OkT c j mo own pdo bx g op) : TT c j mo own pdo dn bx (t ++ u) := by
  have kn : ∀ {i : Nat} {op : MemOp}, op ∈ u → (t ++ u)[i]? = some op → Knows (t ++ u) g i := fun hop hi => by
    have := knows_own hi
    rwa [(hu _ hop).1] at this
  refine ⟨fun said => ?_, fun i op hpi hi => ?_, fun i x hx hA => ?_, fun i x hx hR hw => ?_, fun g' b' hg' hb' i x hx hB => ?_, fun k hk => ?_, ?_, fun pd hpd => ?_, fun k x hk hx => ?_, fun i x hx hm => ?_, ?_, ?_⟩
  · refine noRace_append (h.nr said) (fun op hop => (hu op hop).1) fun i a ha op hop b hb hc => ?_
    rcases (hu op hop).2.2 b hb with ⟨h1, h2, _⟩ | ⟨h1, h2, h3⟩ | ⟨h1, h2⟩ | h1 | ⟨k, h1, h2, h3⟩ | ⟨h1, h2⟩
    · rcases h.at_ i a ha (hc.1 ▸ h1) with h5 | ⟨h5, _⟩ | h5
      · rcases hc.2.2.2 with x | x | ⟨_, x, _⟩
        · rw [h5] at x; cases x
        · rw [h2] at x; cases x
        · rw [h5] at x; cases x
      · rcases hc.2.2.2 with x | x | ⟨_, _, x⟩
        · rw [h5] at x; cases x
        · rw [h2] at x; cases x
        · rw [h2] at x; cases x
      · exact h5 g hg
    · rcases h.at_ i a ha (hc.1 ▸ h1) with h5 | ⟨_, h5⟩ | h5
      · rcases hc.2.2.2 with x | x | ⟨_, x, _⟩
        · rw [h5] at x; cases x
        · rw [h2] at x; cases x
        · rw [h5] at x; cases x
      · rw [h3]; exact h5
      · exact h5 g hg
    · exact h.ro i a ha (hc.1 ▸ h1) (hc.2.2.1.resolve_right (by simp [h2])) g hg
    · obtain ⟨b0, e0, h1⟩ := h1
      exact h.bxs g b0 hg e0 i a ha (hc.1 ▸ h1)
    · have := h.fr k h1 i a ha (hc.1.trans h2)
      rwa [h3] at this
    · have hgd := h.gd
      rw [h2] at hgd
      exact hgd.2 _ h1 i a ha hc.1
  · rcases getElem?_append_cases hi with ⟨_, hi'⟩ | ⟨_, hou⟩
    · exact h.gs i op hpi hi'
    · rw [(hu op hou).1]
      rcases hg with rfl | hg
      · exact Nat.zero_le _
      · exact hg.2
  · rcases touch_cases hx with ⟨_, hx'⟩ | ⟨op, hou, ho, hox⟩
    · rcases h.at_ i x hx' hA with h1 | ⟨h1, h2⟩ | h1
      · exact .inl h1
      · exact .inr (.inl ⟨h1, h2.app u⟩)
      · exact .inr (.inr fun g' hg' => (h1 g' hg').app u)
    · rcases (hu op hou).2.2 x hox with ⟨_, h2, _⟩ | ⟨_, h2, h3⟩ | ⟨h1, _⟩ | h1 | ⟨k, _, h2, _⟩ | ⟨h1, _⟩
      · exact .inl h2
      · subst h3; exact .inr (.inl ⟨h2, kn hou ho⟩)
      · exact absurd h1 hA.notRo
      · obtain ⟨b0, e0, h1⟩ := h1; exact absurd h1 (hA.notBx (S.bxLow g b0 hg e0))
      · exact absurd h2 (hA.notFc k)
      · exact absurd h1 hA.notGd
  · rcases touch_cases hx with ⟨_, hx'⟩ | ⟨op, hou, ho, hox⟩
    · exact fun g' hg' => (h.ro i x hx' hR hw g' hg').app u
    · rcases (hu op hou).2.2 x hox with ⟨h1, _⟩ | ⟨h1, _⟩ | ⟨_, h2⟩ | h1 | ⟨k, _, h2, _⟩ | ⟨h1, _⟩
      · exact absurd hR h1.notRo
      · exact absurd hR h1.notRo
      · rw [h2] at hw; cases hw
      · obtain ⟨b0, e0, h1⟩ := h1; exact absurd h1 (hR.notBx (S.bxLow g b0 hg e0))
      · exact absurd h2 (hR.notFc k)
      · exact absurd h1 hR.notGd
  · rcases touch_cases hx with ⟨_, hx'⟩ | ⟨op, hou, ho, hox⟩
    · exact (h.bxs g' b' hg' hb' i x hx' hB).app u
    · rcases (hu op hou).2.2 x hox with ⟨h1, _⟩ | ⟨h1, _⟩ | ⟨h1, _⟩ | h1 | ⟨k, _, h2, _⟩ | ⟨h1, _⟩
      · exact absurd hB (h1.notBx (S.bxLow g' b' hg' hb'))
      · exact absurd hB (h1.notBx (S.bxLow g' b' hg' hb'))
      · exact absurd hB (h1.notBx (S.bxLow g' b' hg' hb'))
      · obtain ⟨b0, e0, a, e1, e2⟩ := h1
        obtain ⟨a', e3, e4⟩ := hB
        rw [e1] at e3
        cases e3
        rw [← S.bxInj g g' b0 hg hg' e0 (by rw [hb', ← e2, e4])]
        exact kn hou ho
      · exact absurd (h2 ▸ hB) (FcL.notBx k (S.bxLow g' b' hg' hb'))
      · exact absurd hB (h1.notBx (S.bxLow g' b' hg' hb'))
  · refine (h.fr k hk).app fun op hop b hb e => ?_
    rw [(hu op hop).1]
    rcases (hu op hop).2.2 b hb with ⟨h1, _⟩ | ⟨h1, _⟩ | ⟨h1, _⟩ | h1 | ⟨k', _, h2, h3⟩ | ⟨h1, _⟩
    · exact absurd e (h1.notFc k)
    · exact absurd e (h1.notFc k)
    · exact absurd e (h1.notFc k)
    · obtain ⟨b0, e0, h1⟩ := h1; exact absurd (e ▸ h1) (FcL.notBx k (S.bxLow g b0 hg e0))
    · rw [FcL.inj (h2.symm.trans e)] at h3; exact h3.symm
    · exact absurd (e ▸ h1) (FcL.notGd k)
  · have key : ∀ op ∈ u, ∀ b, op.act.touch? = some b → GdL c mo b.loc → own = some g := fun op hop b hb hG => by
      rcases (hu op hop).2.2 b hb with ⟨h1, _⟩ | ⟨h1, _⟩ | ⟨h1, _⟩ | h1 | ⟨k', _, h2, h3⟩ | ⟨_, h1⟩
      · exact absurd hG h1.notGd
      · exact absurd hG h1.notGd
      · exact absurd hG h1.notGd
      · obtain ⟨b0, e0, h1⟩ := h1; exact absurd h1 (hG.notBx (S.bxLow g b0 hg e0))
      · exact absurd (h2 ▸ hG) (FcL.notGd k')
      · exact h1
    have hgd := h.gd
    cases own with
    | none =>
      intro l hl i x hx e
      rcases touch_cases hx with ⟨_, hx'⟩ | ⟨op, hou, ho, hox⟩
      · exact (hgd l hl i x hx' e).app u
      · have := key op hou x hox (e ▸ hl); cases this
    | some g0 =>
      refine ⟨hgd.1, fun l hl => (hgd.2 l hl).app fun op hop b hb e => ?_⟩
      have := key op hop b hb (e ▸ hl)
      rw [(hu op hop).1]
      exact (Option.some.inj this).symm
  · obtain ⟨h1, h2, h3⟩ := h.pd pd hpd
    have hp := lt_of_act? h1
    refine ⟨by rw [act?_old hp]; exact h1, (heard_old hp).2 h2, fun k sync hk e => ?_⟩
    obtain ⟨op, ho, hoa⟩ := Option.map_eq_some_iff.1 e
    rcases getElem?_append_cases ho with ⟨hi, ho'⟩ | ⟨_, hou⟩
    · exact h3 k sync hk (by rw [act?_of ho', hoa])
    · have hA : AtL c (.cell (dnA c)) := ⟨dnA c, rfl, .inr ⟨rfl, by simp [dnA, seA]⟩⟩
      have hx : op.act.touch? = some ⟨.cell (dnA c), true, if sync then .atomic else .plain⟩ := by rw [hoa]; cases sync <;> rfl
      rcases (hu op hou).2.2 _ hx with ⟨_, _, h6⟩ | ⟨_, h6, _⟩ | ⟨h6, _⟩ | h6 | ⟨k', _, h6, _⟩ | ⟨h6, _⟩
      · exact h6 rfl (by rw [hpd]; simp) rfl
      · cases sync <;> cases h6
      · exact hA.notRo h6
      · obtain ⟨b0, e0, h6⟩ := h6; exact hA.notBx (S.bxLow g b0 hg e0) h6
      · exact hA.notFc k' h6
      · exact hA.notGd h6
  · obtain ⟨op, ho, hoa⟩ := Option.map_eq_some_iff.1 hx
    rcases getElem?_append_cases ho with ⟨_, ho'⟩ | ⟨_, hou⟩
    · exact h.norel k x hk (by rw [act?_of ho', hoa])
    · rw [← hoa]; exact (hu op hou).2.1
  · rcases touch_ge hx with ⟨hi, hx'⟩ | ⟨hi, op, hou, ho, hox⟩
    · rcases h.past i x hx' hm with h1 | h1 | ⟨h0, g', h1, h2⟩
      · exact .inl (h1.app u)
      · exact .inr (.inl h1)
      · exact .inr (.inr ⟨h0, g', h1, by rw [g?_old hi]; exact h2⟩)
    · rcases hg with h0 | hg
      · subst h0; exact .inl (kn hou ho)
      · refine .inr (.inr ⟨?_, g, hg.1, by simp only [Trace.g?, ho, Option.map_some, (hu op hou).1]⟩)
        have := h.sz
        omega
  · refine over_app h.sz h.over fun op hop => ?_
    rw [(hu op hop).1]
    rcases hg with h0 | hg
    · exact .inl h0
    · exact .inr (.inl hg.1)
  · have := h.sz
    simp only [Array.size_append]
    omega
end
end Go.Proofs.Ytnlopklbbajlbaa.Sw
