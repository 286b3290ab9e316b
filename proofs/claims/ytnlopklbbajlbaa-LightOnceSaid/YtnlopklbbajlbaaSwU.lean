/- LightOnce: the trace: how ownership passes: the lock, the once, a go statement, a new block; the join. -/
import Derived.Test.YtnlopklbbajlbaaSwT
namespace Go.Proofs.Ytnlopklbbajlbaa.Sw
open Go Go.Conc Go.ConcN
open Go.ConcR (stA smA)

section
variable {c : TC} {j : Nat} {mo own pdo : Option Nat} {dn : Bool} {bx : Nat → Option Nat} {t u : Trace} {g : Nat}

/-- Operations of one goroutine (an old one too) that touch nothing. -/
theorem TT.still (h : TT c j mo own pdo dn bx t) {g0 : Nat} (hg : g0 ≤ c.e + j) (hu : ∀ op ∈ u, op.g = g0 ∧ NoRel c op.act ∧ op.act.touch? = none) : TT c j mo own pdo dn bx (t ++ u) := by
  have old : ∀ {i : Nat} {x : Touch}, touchAt (t ++ u) i = some x → i < t.size ∧ touchAt t i = some x := fun hx => by
    rcases touch_cases hx with h1 | ⟨op, hou, _, hox⟩
    · exact h1
    · rw [(hu op hou).2.2] at hox; cases hox
  refine ⟨fun said => ?_, fun i op hpi hi => ?_, fun i x hx hA => ?_, fun i x hx hR hw => ?_, fun g' b' hg' hb' i x hx hB => ?_, fun k hk => ?_, ?_, fun pd hpd => ?_, fun k x hk hx => ?_, fun i x hx hm => ?_, ?_, ?_⟩
  · exact noRace_append (h.nr said) (fun op hop => (hu op hop).1) fun i a _ op hop b hb _ => by rw [(hu op hop).2.2] at hb; cases hb
  · rcases getElem?_append_cases hi with ⟨_, hi'⟩ | ⟨_, hou⟩
    · exact h.gs i op hpi hi'
    · rw [(hu op hou).1]; exact hg
  · rcases h.at_ i x (old hx).2 hA with h1 | ⟨h1, h2⟩ | h1
    · exact .inl h1
    · exact .inr (.inl ⟨h1, h2.app u⟩)
    · exact .inr (.inr fun g' hg' => (h1 g' hg').app u)
  · exact fun g' hg' => (h.ro i x (old hx).2 hR hw g' hg').app u
  · exact (h.bxs g' b' hg' hb' i x (old hx).2 hB).app u
  · exact fun i x hx e => (h.fr k hk i x (old hx).2 e).app u
  · have hgd := h.gd
    cases own with
    | none => exact fun l hl i x hx e => (hgd l hl i x (old hx).2 e).app u
    | some g1 => exact ⟨hgd.1, fun l hl i x hx e => (hgd.2 l hl i x (old hx).2 e).app u⟩
  · obtain ⟨h1, h2, h3⟩ := h.pd pd hpd
    have hp := lt_of_act? h1
    refine ⟨by rw [act?_old hp]; exact h1, (heard_old hp).2 h2, fun k sync hk e => ?_⟩
    obtain ⟨op, ho, hoa⟩ := Option.map_eq_some_iff.1 e
    rcases getElem?_append_cases ho with ⟨hi, ho'⟩ | ⟨_, hou⟩
    · exact h3 k sync hk (by rw [act?_of ho', hoa])
    · have := (hu op hou).2.2
      rw [hoa] at this
      cases sync <;> cases this
  · obtain ⟨op, ho, hoa⟩ := Option.map_eq_some_iff.1 hx
    rcases getElem?_append_cases ho with ⟨_, ho'⟩ | ⟨_, hou⟩
    · exact h.norel k x hk (by rw [act?_of ho', hoa])
    · rw [← hoa]; exact (hu op hou).2.1
  · rcases h.past i x (old hx).2 hm with h1 | h1 | ⟨h0, g', h1, h2⟩
    · exact .inl (h1.app u)
    · exact .inr (.inl h1)
    · exact .inr (.inr ⟨h0, g', h1, by rw [g?_old (old hx).1]; exact h2⟩)
  · exact over_app h.sz h.over fun op hop => .inr (.inr (hu op hop).2.2)
  · have := h.sz
    simp only [Array.size_append]
    omega

theorem size_one (t : Trace) (z : MemOp) : (t ++ #[z])[t.size]? = some z := by simp
theorem heard_new {z : MemOp} (hd : Deaf t z.g = 0) : (t ++ #[z]).heard t.size := ⟨z.g, by simp [Trace.g?], by rw [deaf_old (Nat.le_refl _)]; exact hd⟩

/-- ████ THE LOCK IS TAKEN: 'acquire', hearing. ████ -/
theorem TT.acquire (h : TT c j mo none pdo dn bx t) {z : MemOp} (hg : Sd c j z.g) (hz : z.act = .mark (.acquire (mxA c false))) (hd : Deaf t z.g = 0) (hp : ∀ pd, pdo = some pd → Knows t z.g pd) : TT c j mo (some z.g) pdo dn bx (t ++ #[z]) := by
  have hn : z.act.touch? = none := by rw [hz]; rfl
  have hle : z.g ≤ c.e + j := by rcases hg with h0 | h0; omega; exact h0.2
  have hb := h.still (u := #[z]) hle fun op hop => by simp at hop; subst hop; exact ⟨rfl, by rw [hz]; simp [NoRel], hn⟩
  refine ⟨hb.nr, hb.gs, hb.at_, hb.ro, hb.bxs, hb.fr, ⟨hg, fun l hl i x hx e => ?_⟩, hb.pd, hb.norel, hb.past, hb.over, hb.sz⟩
  have hx' : touchAt t i = some x := by
    rcases touch_cases hx with h1 | ⟨op, hou, _, hox⟩
    · exact h1.2
    · simp at hou; subst hou; rw [hn] at hox; cases hox
  rcases h.gd l hl i x hx' e with h1 | ⟨_, ⟨pd, h1, h2⟩ | ⟨p, h1, h2, h3, h4⟩⟩
  · exact (h1 z.g hg).app _
  · exact (Knows.of_before h2 (hp pd h1)).app _
  · have hpl := lt_of_act? h2
    have hq := size_one t z
    have edge : HappensBefore (t ++ #[z]) p t.size := .single (.inr ⟨.marked hpl (.inr (by rw [act?_old hpl]; exact h2)) (by rw [act?_of hq, hz]) (fun k h5 _ e => (hb.norel k _ (by omega) e).2.1 rfl), (heard_old hpl).2 h3, heard_new hd⟩)
    exact ⟨t.size, z, hq, rfl, .inr ((h4.app #[z]).hb edge)⟩

/-- ████ THE LOCK IS GIVEN UP: 'release and merge', hearing. ████ -/
theorem TT.release (h : TT c j mo (some g) pdo true bx t) {z : MemOp} (hg : z.g = g) (hz : z.act = .mark (.releaseMerge (mxA c false))) (hd : Deaf t z.g = 0) : TT c j mo none pdo true bx (t ++ #[z]) := by
  have hn : z.act.touch? = none := by rw [hz]; rfl
  have hsd : Sd c j g := h.gd.1
  have hle : z.g ≤ c.e + j := by rw [hg]; rcases hsd with h0 | h0; omega; exact h0.2
  have hb := h.still (u := #[z]) hle fun op hop => by simp at hop; subst hop; exact ⟨rfl, by rw [hz]; simp [NoRel], hn⟩
  have hq := size_one t z
  refine ⟨hb.nr, hb.gs, hb.at_, hb.ro, hb.bxs, hb.fr, fun l hl i x hx e => .inr ⟨rfl, .inr ⟨t.size, h.sz, by rw [act?_of hq, hz], heard_new hd, .inr ?_⟩⟩, hb.pd, hb.norel, hb.past, hb.over, hb.sz⟩
  have hx' : touchAt t i = some x := by
    rcases touch_cases hx with h1 | ⟨op, hou, _, hox⟩
    · exact h1.2
    · simp at hou; subst hou; rw [hn] at hox; cases hox
  exact (h.gd.2 l hl i x hx' e).hb_new (Nat.le_refl _) hq hg

/-- Whoever finds the once undone, holding its mutex, owns. -/
theorem TT.take0 (h : TT c j mo none pdo false bx t) (hg : Sd c j g) : TT c j mo (some g) pdo false bx t :=
  ⟨h.nr, h.gs, h.at_, h.ro, h.bxs, h.fr, ⟨hg, fun l hl i x hx e => by
    rcases h.gd l hl i x hx e with h1 | ⟨h1, _⟩
    · exact h1 g hg
    · cases h1⟩, h.pd, h.norel, h.past, h.over, h.sz⟩
/-- .. has made the map. -/
theorem TT.newMap (h : TT c j none (some g) pdo dn bx t) {m : Nat} (hm : ∀ i x, touchAt t i = some x → x.loc ≠ .obj m) : TT c j (some m) (some g) pdo dn bx t :=
  ⟨h.nr, h.gs, h.at_, h.ro, h.bxs, h.fr, ⟨h.gd.1, fun l hl i x hx e => by
    rcases hl with hl | ⟨m', hm', hl⟩
    · exact h.gd.2 l (.inl hl) i x hx e
    · cases hm'; exact absurd (e.trans hl) (hm i x hx)⟩, h.pd, h.norel, h.past, h.over, h.sz⟩

/-- ████ THE ONCE IS DONE: the atomic store. ████ -/
theorem TT.publish (h : TT c j mo (some g) none false bx t) (S : Sep c j bx) {z : MemOp} (hg : z.g = g) (hz : z.act = .access ⟨.cell (dnA c), true, true⟩) (hd : Deaf t z.g = 0) : TT c j mo none (some t.size) true bx (t ++ #[z]) := by
  have hsd : Sd c j g := h.gd.1
  have hA : AtL c (.cell (dnA c)) := ⟨dnA c, rfl, .inr ⟨rfl, by simp [dnA, seA]⟩⟩
  have hb := h.app (u := #[z]) S hsd fun op hop => by
    simp at hop
    subst hop
    refine ⟨hg, by rw [hz]; simp [NoRel], fun x hx => ?_⟩
    rw [hz] at hx
    simp only [MemAct.touch?, Option.some.injEq] at hx
    subst hx
    exact .inl ⟨hA, rfl, fun _ e => absurd rfl e⟩
  have hq := size_one t z
  refine ⟨hb.nr, hb.gs, hb.at_, hb.ro, hb.bxs, hb.fr, fun l hl i x hx e => .inr ⟨rfl, .inl ⟨t.size, rfl, ?_⟩⟩, fun pd hpd => ?_, hb.norel, hb.past, hb.over, hb.sz⟩
  · rcases touch_cases hx with h1 | ⟨op, hou, _, hox⟩
    · exact .inr ((h.gd.2 l hl i x h1.2 e).hb_new (Nat.le_refl _) hq hg)
    · simp at hou
      subst hou
      rw [hz] at hox
      simp only [MemAct.touch?, Option.some.injEq] at hox
      subst hox
      have e' : Loc.cell (dnA c) = l := e
      exact absurd (e' ▸ hl) hA.notGd
  · cases hpd
    refine ⟨by rw [act?_of hq, hz], heard_new hd, fun k sync hk e => ?_⟩
    have := lt_of_act? e
    simp at this
    omega

/-- ████ WHOEVER READS THAT THE ONCE IS DONE, hearing, KNOWS WHO DID IT. ████ -/
theorem TT.passes (h : TT c j mo own pdo dn bx t) {z : MemOp} (hz : z.act = .access ⟨.cell (dnA c), false, true⟩) (hd : Deaf t z.g = 0) {pd : Nat} (hpd : pdo = some pd) : Knows (t ++ #[z]) z.g pd := by
  obtain ⟨h1, h2, h3⟩ := h.pd pd hpd
  have hp := lt_of_act? h1
  have hq := size_one t z
  refine ⟨t.size, z, hq, rfl, .inr (.single (.inr ⟨.atomic (a := dnA c) hp (by rw [act?_old hp]; exact h1) (by rw [act?_of hq, hz]) (fun k sync h4 h5 => ?_), (heard_old hp).2 h2, heard_new hd⟩))⟩
  rw [act?_old h5]
  exact h3 k sync h4

/-- A block of its own, not touched yet; or none. -/
theorem TT.rebox (h : TT c j mo own pdo dn bx t) {o : Option Nat} (hb : ∀ b, o = some b → ∀ i x, touchAt t i = some x → ¬ BxL b x.loc) : TT c j mo own pdo dn (upd bx g o) t :=
  ⟨h.nr, h.gs, h.at_, h.ro, fun g' b' hg' hb' i x hx hB => by
    by_cases e : g' = g
    · subst e; rw [upd_same] at hb'; exact absurd hB (hb b' hb' i x hx)
    · rw [upd_ne _ _ e] at hb'; exact h.bxs g' b' hg' hb' i x hx hB, h.fr, h.gd, h.pd, h.norel, h.past, h.over, h.sz⟩
theorem TT.boxes (h : TT c j mo own pdo dn bx t) {bx' : Nat → Option Nat} (hb : ∀ g, Sd c j g → bx' g = bx g) : TT c j mo own pdo dn bx' t :=
  ⟨h.nr, h.gs, h.at_, h.ro, fun g' b' hg' hb' => h.bxs g' b' hg' (by rw [← hb g' hg']; exact hb'), h.fr, h.gd, h.pd, h.norel, h.past, h.over, h.sz⟩

/-- ████ THE go STATEMENT: the new worker takes the starter's block. ████ -/
theorem TT.fork (h : TT c j mo own pdo dn bx t) {x y : MemOp} (hx : x.g = 0 ∧ x.act = .go (c.e + j + 1)) (hy : y.g = c.e + j + 1 ∧ y.act = .start) (h0 : Deaf t 0 = 0) (hk : Deaf t (c.e + j + 1) = 0) :
    TT c (j + 1) mo own pdo dn (upd (upd bx (c.e + j + 1) (bx 0)) 0 none) (t ++ #[x, y]) := by
  have hm : ∀ op ∈ #[x, y], op = x ∨ op = y := by intro op hop; simpa using hop
  have hnt : ∀ op ∈ #[x, y], ∀ b, op.act.touch? = some b → False := by
    intro op hop b hb
    rcases hm op hop with rfl | rfl
    · rw [hx.2] at hb; cases hb
    · rw [hy.2] at hb; cases hb
  have old : ∀ {i : Nat} {a : Touch}, touchAt (t ++ #[x, y]) i = some a → i < t.size ∧ touchAt t i = some a := fun ha => by
    rcases touch_cases ha with h1 | ⟨op, hou, _, hox⟩
    · exact h1
    · exact (hnt op hou _ hox).elim
  have fk : ∀ {i : Nat}, Knows t 0 i → Knows (t ++ #[x, y]) (c.e + j + 1) i := fun hkn => fork_knows hx hy h0 hk hkn
  have s0 : Sd c j 0 := .inl rfl
  have all : ∀ {i : Nat}, (∀ g, Sd c j g → Knows t g i) → ∀ g, Sd c (j + 1) g → Knows (t ++ #[x, y]) g i := fun hall g hg => by
    by_cases e : g = c.e + j + 1
    · subst e; exact fk (hall 0 s0)
    · exact (hall g (by rcases hg with h1 | h1; exact .inl h1; exact .inr ⟨h1.1, by omega⟩)).app _
  refine ⟨fun said => ?_, fun i op hpi hi => ?_, fun i z hz hA => ?_, fun i z hz hR hw => ?_, fun g' b' hg' hb' i z hz hB => ?_, fun k hk' => ?_, ?_, fun pd hpd => ?_, fun k z hk' hz => ?_, fun i z hz hmm => ?_, ?_, ?_⟩
  · have e : t ++ #[x, y] = (t ++ #[x]) ++ #[y] := by apply Array.ext'; simp
    rw [e]
    refine noRace_append (g := c.e + j + 1) (noRace_append (g := 0) (h.nr said) (fun op hop => by simp at hop; rw [hop]; exact hx.1) (fun i b _ op hop z hz _ => (hnt op (by simp at hop ⊢; exact .inl hop) z hz).elim))
      (fun op hop => by simp at hop; rw [hop]; exact hy.1) (fun i b _ op hop z hz _ => (hnt op (by simp at hop ⊢; exact .inr hop) z hz).elim)
  · rcases getElem?_append_cases hi with ⟨_, hi'⟩ | ⟨_, hou⟩
    · have := h.gs i op hpi hi'; omega
    · rcases hm op hou with rfl | rfl
      · rw [hx.1]; omega
      · rw [hy.1]; omega
  · rcases h.at_ i z (old hz).2 hA with h1 | ⟨h1, h2⟩ | h1
    · exact .inl h1
    · exact .inr (.inl ⟨h1, h2.app _⟩)
    · exact .inr (.inr (all h1))
  · exact all (h.ro i z (old hz).2 hR hw)
  · by_cases e0 : g' = 0
    · subst e0; rw [upd_same] at hb'; cases hb'
    · rw [upd_ne _ _ e0] at hb'
      by_cases e : g' = c.e + j + 1
      · subst e; rw [upd_same] at hb'; exact fk (h.bxs 0 b' s0 hb' i z (old hz).2 hB)
      · rw [upd_ne _ _ e] at hb'
        exact (h.bxs g' b' (by rcases hg' with h1 | h1; exact .inl h1; exact .inr ⟨h1.1, by omega⟩) hb' i z (old hz).2 hB).app _
  · intro i z hz e
    have hf := h.fr k hk' i z (old hz).2 e
    unfold ow at hf ⊢
    by_cases h1 : k % c.W < j
    · rw [if_pos h1] at hf
      rw [if_pos (by omega)]
      exact hf.app _
    · rw [if_neg h1] at hf
      by_cases h2 : k % c.W < j + 1
      · rw [if_pos h2]
        have : c.e + 1 + k % c.W = c.e + j + 1 := by omega
        rw [this]
        exact fk hf
      · rw [if_neg h2]
        exact hf.app _
  · have hgd := h.gd
    cases own with
    | none =>
      intro l hl i z hz e
      rcases hgd l hl i z (old hz).2 e with h1 | ⟨h1, ⟨pd, h2, h3⟩ | ⟨p, h2, h3, h4, h5⟩⟩
      · exact .inl (all h1)
      · exact .inr ⟨h1, .inl ⟨pd, h2, h3.app _⟩⟩
      · have hp := lt_of_act? h3
        exact .inr ⟨h1, .inr ⟨p, h2, by rw [act?_old hp]; exact h3, (heard_old hp).2 h4, h5.app _⟩⟩
    | some g1 => exact ⟨by rcases hgd.1 with h1 | h1; exact .inl h1; exact .inr ⟨h1.1, by omega⟩, fun l hl i z hz e => (hgd.2 l hl i z (old hz).2 e).app _⟩
  · obtain ⟨h1, h2, h3⟩ := h.pd pd hpd
    have hp := lt_of_act? h1
    refine ⟨by rw [act?_old hp]; exact h1, (heard_old hp).2 h2, fun k sync hk e => ?_⟩
    obtain ⟨op, ho, hoa⟩ := Option.map_eq_some_iff.1 e
    rcases getElem?_append_cases ho with ⟨_, ho'⟩ | ⟨_, hou⟩
    · exact h3 k sync hk (by rw [act?_of ho', hoa])
    · rcases hm op hou with rfl | rfl
      · rw [hx.2] at hoa; cases hoa
      · rw [hy.2] at hoa; cases hoa
  · obtain ⟨op, ho, hoa⟩ := Option.map_eq_some_iff.1 hz
    rcases getElem?_append_cases ho with ⟨_, ho'⟩ | ⟨_, hou⟩
    · exact h.norel k z hk' (by rw [act?_of ho', hoa])
    · rw [← hoa]
      rcases hm op hou with rfl | rfl
      · rw [hx.2]; simp [NoRel]
      · rw [hy.2]; simp [NoRel]
  · rcases h.past i z (old hz).2 hmm with h1 | h1 | ⟨h9, g', h1, h2⟩
    · exact .inl (h1.app _)
    · exact .inr (.inl h1)
    · exact .inr (.inr ⟨h9, g', h1, by rw [g?_old (old hz).1]; exact h2⟩)
  · refine over_app h.sz h.over fun op hop => ?_
    rcases hm op hop with rfl | rfl
    · exact .inl hx.1
    · exact .inr (.inl (by rw [hy.1]; omega))
  · have := h.sz
    simp only [Array.size_append]
    omega
end
end Go.Proofs.Ytnlopklbbajlbaa.Sw
