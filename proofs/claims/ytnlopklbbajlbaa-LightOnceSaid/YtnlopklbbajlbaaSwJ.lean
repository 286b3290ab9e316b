/- LightOnce: a worker is started; somebody can always go on. -/
import Derived.Test.YtnlopklbbajlbaaSwI
namespace Go.Proofs.Ytnlopklbbajlbaa.Sw
open Go.ConcN (sumTo upd sumTo_upd upd_same upd_ne sumTo_congr le_sumTo sumTo_le sumTo_upd_out)

section
variable {th : Nat → Wk} {j k : Nat} {T T' X : Wk} {W n : Nat} {nm : Nat → ByteArray} {S0 : List ByteArray} {s s' : Sh} {B : Nat} {t : St}

theorem sum_new {α : Type} (f : Nat → α) (x : α) (φ : α → Nat) (j : Nat) : sumTo (j + 1) (fun a => φ (upd f j x a)) = sumTo j (fun a => φ (f a)) + φ x := by
  simp only [sumTo, upd_same]
  rw [sumTo_upd_out f x φ (Nat.le_refl j)]

/-- ████ A WORKER IS STARTED. ████ -/
theorem Inv.spawn {g : GS} (h : Inv W n B nm S0 g) (hp : g.t0.pc = .sg) {T : Wk} (hT : New n g.t0.j T) :
    Inv W n B nm S0 ⟨{ g.t0 with pc := if g.t0.j + 1 < W then .sb else .kd, j := g.t0.j + 1 }, upd g.th g.t0.j T, g.s⟩ := by
  obtain ⟨t, th, s⟩ := g
  simp only at hp hT ⊢
  have hg := h.grp
  unfold Grp at hg
  simp only [hp] at hg
  have hjW : t.j < W := hg.1
  have hrole : ∀ b, rb T b = 0 := fun b => by
    unfold rb; split
    · rcases hT.pc with ⟨_, e⟩ | ⟨_, e⟩ <;> simp [role, e]
    · rfl
  have hpre : pre T = true ∧ mid2 T = false ∧ mid4 T = false ∧ adding T = false ∧ post T = false := by
    rcases hT.pc with ⟨_, e⟩ | ⟨_, e⟩ <;> simp [pre, mid2, mid4, adding, post, e]
  have hcnt : ∀ b q, q ≠ 0 → cnt (upd th t.j T) (t.j + 1) b q = cnt th t.j b q := fun b q hq => by
    have := sum_new th T (fun T => ind (rb T b = q)) t.j
    rw [ind_false (by rw [hrole]; exact fun e => hq e.symm)] at this
    exact this
  have hcP : ∀ f : Wk → Bool, cP (upd th t.j T) (t.j + 1) f = cP th t.j f + ind (f T = true) := fun f => sum_new th T (fun T => ind (f T = true)) t.j
  have lt : ∀ k, k < t.j + 1 → k ≠ t.j → k < t.j := fun k h1 h2 => by omega
  refine ⟨hjW, fun b => ?_, fun k hk => ?_, ⟨fun k hk => ?_, fun hd => ?_, h.onc.yes⟩, ⟨fun k hk => ?_, fun k hk => ?_, h.cont.nodup, fun x => ?_, ?_, fun i hi => ?_⟩, ?_⟩
  · have m := h.mb b
    exact ⟨by rw [hcnt b 1 (by decide)]; exact m.l, fun hs => by
      rw [hcnt b 2 (by decide), hcnt b 3 (by decide), hcnt b 4 (by decide), hcnt b 5 (by decide), hcnt b 6 (by decide), hcnt b 7 (by decide)]; exact m.n0 hs, fun hs => by
      rw [hcnt b 1 (by decide), hcnt b 2 (by decide), hcnt b 3 (by decide), hcnt b 4 (by decide), hcnt b 5 (by decide), hcnt b 6 (by decide)]; exact m.s1 hs⟩
  · simp only
    by_cases e : k = t.j
    · subst e; rw [upd_same]; rcases hT.pc with ⟨_, e⟩ | ⟨_, e⟩ <;> simp [LocM, e]
    · rw [upd_ne _ _ e]; exact h.locM k (lt k hk e)
  · simp only
    by_cases e : k = t.j
    · subst e; rw [upd_same]; rcases hT.pc with ⟨_, e⟩ | ⟨_, e⟩ <;> simp [LocO, e]
    · rw [upd_ne _ _ e]; exact h.onc.loc k (lt k hk e)
  · rcases h.onc.no hd with h0 | ⟨k, h1, h2⟩
    · exact .inl h0
    · simp only at h1 h2 ⊢
      exact .inr ⟨k, by omega, by rw [upd_ne _ _ (by omega)]; exact h2⟩
  · simp only
    by_cases e : k = t.j
    · subst e; rw [upd_same]
      refine ⟨by rw [hT.i]; exact Nat.mod_eq_of_lt hjW, fun hi => ?_, fun hi => ?_⟩
      · rcases hT.pc with ⟨h1, e⟩ | ⟨_, e⟩
        · rw [hT.i]; exact h1
        · rw [e] at hi; cases hi
      · rcases hT.pc with ⟨h1, e⟩ | ⟨h1, e⟩
        · rw [e] at hi; cases hi
        · rw [hT.i]; exact h1
    · rw [upd_ne _ _ e]; exact h.cont.item k (lt k hk e)
  · simp only
    by_cases e : k = t.j
    · subst e; rw [upd_same]; rcases hT.pc with ⟨_, e⟩ | ⟨_, e⟩ <;> simp [LocC, e]
    · rw [upd_ne _ _ e]; exact h.cont.loc k (lt k hk e)
  · have := h.cont.mem x
    simp only at this ⊢
    rw [this]
    refine or_congr Iff.rfl ⟨fun ⟨i, h1, h2, h3, h4⟩ => ⟨i, h1, by omega, by rw [upd_ne _ _ (by omega)]; exact h3, h4⟩, fun ⟨i, h1, h2, h3, h4⟩ => ?_⟩
    by_cases e : i % W = t.j
    · rw [e, upd_same] at h3
      have hle := Nat.mod_le i W
      unfold did at h3
      rw [hT.i, hpre.2.2.2.2] at h3
      rcases h3 with h3 | ⟨_, h3⟩
      · omega
      · cases h3
    · exact ⟨i, h1, by omega, by rw [upd_ne _ _ e] at h3; exact h3, h4⟩
  · have := sum_new th T (fun T => ind (adding T = true)) t.j
    simp only
    rw [this, hpre.2.2.2.1]
    simpa [ind] using h.cont.num
  · have := h.cont.fr i hi
    simp only at this ⊢
    rw [this]
    by_cases e : i % W = t.j
    · rw [e, upd_same, hT.i]
      have hle := Nat.mod_le i W
      constructor
      · rintro ⟨h1, _, _⟩; omega
      · rintro ⟨_, h1, _⟩; omega
    · rw [upd_ne _ _ e]
      constructor
      · rintro ⟨h1, h2, h3⟩; exact ⟨by omega, h2, h3⟩
      · rintro ⟨h1, h2, h3⟩; exact ⟨by omega, h2, h3⟩
  · simp only
    rw [hcP, hcP, hcP, hpre.1, hpre.2.1, hpre.2.2.1]
    unfold Grp
    by_cases e : t.j + 1 < W
    · simp only [if_pos e, ind, if_true, if_false, Bool.false_eq_true]; omega
    · simp only [if_neg e, ind, if_true, if_false, Bool.false_eq_true]; omega

/-- It waits: for the mutex's semaphore; the starter: for the group's. -/
def waitW (T : Wk) (s : Sh) : Prop := T.c = 0 ∧ T.pc = .ms1 ∧ (s.mx T.b).sem = 0
def waitS (t : St) (s : Sh) : Prop := t.pc = .w3 ∧ s.ws = 0

/-- ████ SOMEBODY CAN GO ON. ████ -/
theorem Inv.live {g : GS} (h : Inv W n B nm S0 g) (hw : waitS g.t0 g.s) : ∃ k, k < g.t0.j ∧ (g.th k).pc ≠ .quit ∧ ¬ waitW (g.th k) g.s := by
  obtain ⟨t, th, s⟩ := g
  obtain ⟨hp, hs⟩ := hw
  simp only at hp hs ⊢
  refine Classical.byContradiction fun hno => ?_
  have all : ∀ k, k < t.j → (th k).pc = .quit ∨ waitW (th k) s := fun k hk => by
    refine Classical.byContradiction fun hc => hno ⟨k, hk, fun e => hc (.inl e), fun e => hc (.inr e)⟩
  have hg := h.grp
  unfold Grp at hg
  simp only [hp] at hg
  have hpos : 0 < cP th t.j pre ∨ 0 < cP th t.j mid2 ∨ 0 < cP th t.j mid4 := by omega
  have nomid : ∀ f : Wk → Bool, (∀ T : Wk, f T = true → T.pc ≠ .quit ∧ T.pc ≠ .ms1) → ¬ 0 < cP th t.j f := fun f hf hc => by
    obtain ⟨k, hk, e⟩ := cP_some hc
    obtain ⟨a, b⟩ := hf _ e
    rcases all k hk with e | e
    · exact a e
    · exact b e.2.1
  rcases hpos with hpos | hpos | hpos
  · obtain ⟨k, hk, e⟩ := cP_some hpos
    have hkw : waitW (th k) s := (all k hk).resolve_left fun x => by simp [pre, x] at e
    obtain ⟨_, hpc, hsem⟩ := hkw
    have m := h.mb (th k).b
    simp only at m
    have zero : ∀ q, q ≠ 0 → q ≠ 5 → cnt th t.j (th k).b q = 0 := fun q h0 h5 => by
      refine Nat.eq_zero_of_not_pos fun hc => ?_
      have : ∃ k', k' < t.j ∧ rb (th k') (th k).b = q := by
        obtain ⟨k', h1, h2⟩ := cP_some (th := th) (f := fun T => decide (rb T (th k).b = q)) (j := t.j) (by
          unfold cnt at hc
          unfold cP
          simpa using hc)
        exact ⟨k', h1, by simpa using h2⟩
      obtain ⟨k', h1, h2⟩ := this
      unfold rb at h2
      split at h2
      · rcases all k' h1 with e | e
        · simp [role, e] at h2; exact h0 h2.symm
        · simp [role, e.2.1] at h2; exact h5 h2.symm
      · exact h0 h2.symm
    have five : 1 ≤ cnt th t.j (th k).b 5 := cnt_pos' hk (by rw [rb_self]; simp [role, hpc])
    have c1 := zero 1 (by decide) (by decide)
    have c2 := zero 2 (by decide) (by decide)
    have c3 := zero 3 (by decide) (by decide)
    have c4 := zero 4 (by decide) (by decide)
    have c6 := zero 6 (by decide) (by decide)
    have c7 := zero 7 (by decide) (by decide)
    cases hS : (s.mx (th k).b).w.s
    · obtain ⟨a1, a2, a3, a4⟩ := m.n0 hS
      have hl := m.l
      rw [c1] at hl
      have hl' : (s.mx (th k).b).w.l = false := by cases e : (s.mx (th k).b).w.l; rfl; rw [e] at hl; simp at hl
      have hk' : (s.mx (th k).b).w.k = false := by
        rw [c2, c3, c6, hsem] at a1
        cases e : (s.mx (th k).b).w.k
        · rfl
        · rw [e] at a1; simp at a1
      have := a4 (by omega) hl' hk'
      omega
    · obtain ⟨a1, a2, a3, a4, a5⟩ := m.s1 hS
      omega
  · exact nomid mid2 (fun T hT => by unfold mid2 at hT; cases hq : T.pc <;> simp [hq] at hT <;> simp) hpos
  · exact nomid mid4 (fun T hT => by unfold mid4 at hT; cases hq : T.pc <;> simp [hq] at hT <;> simp) hpos
end
end Go.Proofs.Ytnlopklbbajlbaa.Sw

namespace Go.Proofs.Ytnlopklbbajlbaa.Sw
open Go.ConcN (sumTo upd sumTo_upd upd_same upd_ne sumTo_congr le_sumTo sumTo_le)

def off (b : Bool) : Nat := if b then 45 else 0
def base (T : Wk) : Nat :=
  match T.pc with
  | .bx => 98
  | .dn0 => 95
  | .md => 40 + off T.b
  | .m0 => 39 + off T.b
  | .mr0 => 36 + off T.b
  | .msq | .mc1 | .mr1 | .mc2 | .mr3 => (if T.aw then 35 else 36) + off T.b
  | .mt1 => 33 + off T.b
  | .ms1 => 32 + off T.b
  | .mt2 => 38 + off T.b
  | .mr2 => 37 + off T.b
  | .ma1 => 34 + off T.b
  | .me => 31 + off T.b
  | .ma => 30 + off T.b
  | .dn1 | .lk1 => 29 + off T.b
  | .al | .lk2 => 28 + off T.b
  | .sl | .dr => 27 + off T.b
  | .dst | .ia1 | .iba => 26 + off T.b
  | .ian | .ibr => 25 + off T.b
  | .in2 => 24 + off T.b
  | .ur => 23 + off T.b
  | .ud => 22 + off T.b
  | .u0 => 21 + off T.b
  | .uc | .ux => 13 + off T.b
  | .us => 12 + off T.b
  | .ue => 2 + off T.b
  | .wf => 1
  | .wr => 20
  | .wk => 19
  | .d1 => 18
  | .d2 => 17
  | .d3 => 16
  | .d4 => 15
  | .quit => 0
def phi (W n : Nat) (T : Wk) : Nat := 20 * (100 * (n + W - T.i) + base T) + T.c
open Classical in
noncomputable def psi (T : Wk) (s : Sh) : Nat :=
  match T.pc with
  | .mr0 => 20
  | .msq => 3 * (4 - T.it) + (if (s.mx T.b).w = T.old then 2 else 5)
  | .mc1 => 3 * (4 - T.it) + 1
  | .mr1 => 3 * (4 - T.it)
  | .mc2 => if (s.mx T.b).w = T.old then 1 else 3 * (4 - T.it) + 4
  | .mr3 => 3 * (4 - T.it) + 3
  | .ux => 1
  | .uc => if (s.mx T.b).w = T.old then 0 else 2
  | _ => 0
def sems (s : Sh) : Nat := s.mo.sem + s.ml.sem

section
variable {th : Nat → Wk} {j k : Nat} {T T' X : Wk} {W n : Nat} {nm : Nat → ByteArray} {S0 : List ByteArray} {s s' : Sh} {B : Nat} {t : St}

theorem psi_le (T : Wk) (s : Sh) : psi T s ≤ 20 := by
  unfold psi
  cases T.pc <;> simp only <;> (try split) <;> omega
theorem base_head (T : Wk) : base (head T) = (if T.aw then 35 else 36) + off T.b := by unfold head; split <;> rfl
theorem psi_head (T : Wk) (s : Sh) (h : (s.mx T.b).w = T.old) : psi (head T) s ≤ 3 * (4 - T.it) + 2 := by
  unfold head
  split
  · simp only [psi, h, if_true]; omega
  · simp only [psi, h, if_true]; omega
theorem sems_put (s : Sh) (b : Bool) (x : Mx) : sems (s.put b x) + (s.mx b).sem = sems s + x.sem := by cases b <;> simp [sems, Sh.put, Sh.mx] <;> omega

theorem sems_same (s : Sh) (b : Bool) (w : MuW) : sems (s.put b ⟨w, (s.mx b).sem⟩) = sems s := by cases b <;> rfl

/-- ONE STEP: the weight falls; or nothing is turned, and the worker is nearer to its aim. -/
theorem phi_step (hW : 0 < W) (hst : Step W n nm T s X s') (hc : T.c = 0) (hl : LocM B T (s.mx T.b)) (hO : LocO T s) (hi : item T.pc = true → T.i < n) {c' : Nat} (hc' : c' ≤ if bare X.pc then 0 else 16) :
    phi W n { X with c := c' } + 140 * sems s' < phi W n T + 140 * sems s ∨ (s' = s ∧ phi W n { X with c := c' } = phi W n T ∧ psi { X with c := c' } s < psi T s) := by
  have c16 : c' ≤ 16 := by split at hc' <;> omega
  have psc : psi { X with c := c' } s = psi X s := rfl
  have bsc : base { X with c := c' } = base X := rfl
  have isc : ({ X with c := c' } : Wk).i = X.i := rfl
  -- a step that keeps the item and lowers the base
  have low : X.i = T.i → sems s' = sems s → base X < base T → phi W n { X with c := c' } + 140 * sems s' < phi W n T + 140 * sems s := by
    intro h1 h2 h3
    unfold phi
    rw [bsc, isc, h1, h2]
    show 20 * (100 * (n + W - T.i) + base X) + c' + 140 * sems s < _
    omega
  have same : X.i = T.i → s' = s → base X = base T → c' = 0 → psi X s < psi T s → (s' = s ∧ phi W n { X with c := c' } = phi W n T ∧ psi { X with c := c' } s < psi T s) := by
    intro h1 h2 h3 h4 h5
    refine ⟨h2, ?_, by rw [psc]; exact h5⟩
    unfold phi
    rw [bsc, isc, h1, h3, hc]
    exact congrArg _ h4
  have hb : ∀ T : Wk, bare (head T).pc = true := by intro T; unfold head; split <;> rfl
  have hbase : ∀ T : Wk, (head T).i = T.i := head_i
  unfold LocM at hl
  unfold LocO at hO
  cases hp : T.pc <;> simp only [Step, hp] at hst hl hO
  case bx => obtain ⟨⟨z, rfl⟩, rfl⟩ := hst; exact .inl (low rfl rfl (by simp [base, hp]))
  case dn0 => obtain ⟨rfl, rfl⟩ := hst; exact .inl (low rfl rfl (by cases s'.done <;> simp [base, hp, off]))
  case m0 =>
    rcases hst with ⟨h0, rfl, rfl⟩ | ⟨_, rfl, rfl⟩
    · exact .inl (low rfl (sems_same _ _ _) (by simp [base, hp]))
    · exact .inl (low rfl rfl (by simp [base, hp]))
  case mr0 =>
    obtain ⟨rfl, rfl⟩ := hst
    refine .inr (same (head_i _) rfl (by rw [base_head]; simp [base, hp]) (by rw [hb] at hc'; simpa using hc') ?_)
    refine Nat.lt_of_le_of_lt (psi_head _ _ rfl) ?_
    simp [psi, hp]
  case msq =>
    obtain ⟨_, _, _, _, l5, _⟩ := hl
    obtain ⟨rfl, rfl | ⟨h1, h2, h3, rfl⟩ | ⟨h1, rfl⟩⟩ := hst
    · refine .inr (same rfl rfl (by simp [base, hp]) (by simpa [bare] using hc') ?_)
      simp only [psi, hp]; split <;> omega
    · refine .inr (same rfl rfl (by simp [base, hp]) (by simpa [bare] using hc') ?_)
      simp only [psi, hp]; split <;> omega
    · refine .inr (same rfl rfl (by simp [base, hp]) (by simpa [bare] using hc') ?_)
      simp only [psi, hp]; split <;> omega
  case mc1 =>
    obtain ⟨l1, _⟩ := hl
    rcases hst with ⟨h0, rfl, rfl⟩ | ⟨_, rfl, rfl⟩
    · refine .inl (low rfl (sems_same _ _ _) (by simp [base, hp, l1]))
    · refine .inr (same rfl rfl (by simp [base, hp]) (by simpa [bare] using hc') ?_)
      simp only [psi, hp]; omega
  case mr1 =>
    obtain ⟨_, l2, _⟩ := hl
    obtain ⟨rfl, rfl⟩ := hst
    refine .inr (same (head_i _) rfl (by rw [base_head]; simp [base, hp]) (by rw [hb] at hc'; simpa using hc') ?_)
    refine Nat.lt_of_le_of_lt (psi_head _ _ rfl) ?_
    simp only [psi, hp]
    omega
  case mc2 =>
    rcases hst with ⟨h0, rfl, h⟩ | ⟨h0, rfl, rfl⟩
    · have e : sems (s.put T.b ⟨nw T, (s.mx T.b).sem⟩) = sems s := sems_same _ _ _
      rcases h with ⟨_, _, rfl⟩ | ⟨_, rfl | rfl⟩
      · exact .inl (low rfl e (by simp only [base, hp]; split <;> omega))
      · exact .inl (low rfl e (by simp only [base, hp]; split <;> omega))
      · exact .inl (low rfl e (by simp only [base, hp]; split <;> omega))
    · refine .inr (same rfl rfl (by simp [base, hp]) (by simpa [bare] using hc') ?_)
      simp only [psi, hp, if_neg h0]; omega
  case ms1 =>
    obtain ⟨h0, rfl, h⟩ := hst
    have e := sems_put s T.b ⟨(s.mx T.b).w, (s.mx T.b).sem - 1⟩
    simp only at e
    left
    rcases h with rfl | rfl <;> simp only [phi, base, hp] <;> omega
  case mt2 => obtain ⟨rfl | rfl, rfl⟩ := hst <;> exact .inl (low rfl rfl (by simp [base, hp]))
  case mr2 =>
    obtain ⟨⟨_, rfl⟩ | ⟨_, rfl⟩, rfl⟩ := hst
    · exact .inl (low rfl rfl (by simp [base, hp]))
    · exact .inl (low (head_i _) rfl (by rw [base_head]; simp [base, hp]))
  case ma1 => obtain ⟨rfl, rfl⟩ := hst; exact .inl (low rfl (sems_same _ _ _) (by simp [base, hp]))
  case mr3 =>
    obtain ⟨rfl, rfl⟩ := hst
    refine .inr (same (head_i _) rfl (by rw [base_head]; simp [base, hp]) (by rw [hb] at hc'; simpa using hc') ?_)
    refine Nat.lt_of_le_of_lt (psi_head _ _ rfl) ?_
    simp only [psi, hp]
    omega
  case ma => obtain ⟨rfl, rfl⟩ := hst; exact .inl (low rfl rfl (by cases hb : T.b <;> simp [base, hp, off, hb]))
  case dn1 => obtain ⟨rfl, rfl⟩ := hst; exact .inl (low rfl rfl (by cases s'.done <;> simp [base, hp]))
  case al => obtain ⟨z, rfl, rfl⟩ := hst; exact .inl (low rfl rfl (by simp [base, hp]))
  case lk2 => obtain ⟨⟨_, rfl⟩ | ⟨_, rfl⟩, rfl⟩ := hst <;> exact .inl (low rfl rfl (by simp [base, hp]))
  case dr => obtain ⟨rfl | rfl, rfl⟩ := hst <;> exact .inl (low rfl rfl (by simp [base, hp]))
  case u0 =>
    obtain ⟨rfl, h⟩ := hst
    have e : sems (s.put T.b ⟨{ (s.mx T.b).w with l := false }, (s.mx T.b).sem⟩) = sems s := sems_same _ _ _
    rcases h with ⟨_, rfl⟩ | ⟨_, _, rfl⟩ | ⟨_, _, _, rfl⟩ <;> exact .inl (low rfl e (by simp [base, hp]))
  case uc =>
    rcases hst with ⟨h0, rfl, rfl⟩ | ⟨h0, rfl, rfl⟩
    · exact .inl (low rfl (sems_same _ _ _) (by simp [base, hp]))
    · refine .inr (same rfl rfl (by simp [base, hp]) (by simpa [bare] using hc') ?_)
      simp only [psi, hp, if_neg h0]; omega
  case ux =>
    obtain ⟨⟨_, rfl⟩ | ⟨_, _, _, _, rfl⟩, rfl⟩ := hst
    · exact .inl (low rfl rfl (by simp [base, hp]))
    · refine .inr (same rfl rfl (by simp [base, hp]) (by simpa [bare] using hc') ?_)
      simp only [psi, hp, if_true]; omega
  case us =>
    obtain ⟨rfl, rfl⟩ := hst
    have e := sems_put s T.b ⟨(s.mx T.b).w, (s.mx T.b).sem + 1⟩
    simp only at e
    left
    simp only [phi, base, hp]; omega
  case ue =>
    obtain ⟨hst, rfl⟩ := hst
    cases hb : T.b <;> simp only [hb, if_true, if_false, Bool.false_eq_true] at hst <;> subst hst
    · exact .inl (low rfl rfl (by simp [base, hp, off, hb]))
    · exact .inl (low rfl rfl (by simp [base, hp, off, hb]))
  case wf =>
    obtain ⟨rfl, rfl⟩ := hst
    left
    have h1 := hi (by rw [hp]; rfl)
    have e2 : sems { s with fr := upd s.fr T.i T.r } = sems s := rfl
    rw [e2]
    by_cases e : T.i + W < n <;> simp only [phi, base, hp, e, if_true, if_false] <;> omega
  case d1 => obtain ⟨rfl, rfl⟩ := hst; exact .inl (low rfl rfl (by by_cases e : s.wv = 1 ∧ s.ww = 1 <;> simp [base, hp, e]))
  all_goals (obtain ⟨rfl, rfl⟩ := hst; exact .inl (low rfl rfl (by simp [base, hp])))
end
end Go.Proofs.Ytnlopklbbajlbaa.Sw

namespace Go.Proofs.Ytnlopklbbajlbaa.Sw
open Go.ConcN (sumTo upd sumTo_upd upd_same upd_ne sumTo_congr le_sumTo sumTo_le)

def sbase (p : Sc) : Nat :=
  match p with
  | .sb => 18 | .so => 17 | .sd => 16 | .sa => 15 | .sr => 14 | .se => 13 | .sg => 12
  | .kd => 8 | .w1 => 7 | .w2 => 7 | .wx => 6 | .w3 => 5 | .w4 => 4 | .ke => 3 | .aq => 2 | .fin => 1
def phiS (W n : Nat) (t : St) : Nat := (W - t.j) * (20 * (100 * (n + W) + 100) + 400) + 20 * sbase t.pc
def psiS (t : St) (s : Sh) : Nat :=
  match t.pc with
  | .w1 => 1
  | .w2 => if s.wv = t.vs then 0 else 2
  | _ => 0
def Phi (W n : Nat) (g : GS) : Nat := sumTo g.t0.j (fun k => phi W n (g.th k)) + 140 * sems g.s + phiS W n g.t0
noncomputable def Psi (g : GS) : Nat := sumTo g.t0.j (fun k => psi (g.th k) g.s) + psiS g.t0 g.s
noncomputable def rank (W n : Nat) (g : GS) : Nat := Phi W n g * (20 * W + 30) + Psi g

section
variable {th : Nat → Wk} {j k : Nat} {T T' X : Wk} {W n : Nat} {nm : Nat → ByteArray} {S0 : List ByteArray} {s s' : Sh} {B : Nat} {t : St}

theorem psiS_le (t : St) (s : Sh) : psiS t s ≤ 2 := by
  unfold psiS
  cases t.pc <;> simp only <;> (try split) <;> omega
theorem Psi_le (g : GS) (h : g.t0.j ≤ W) : Psi g ≤ 20 * W + 2 := by
  unfold Psi
  have h1 := sumTo_le (f := fun k => psi (g.th k) g.s) (c := 20) (j := g.t0.j) fun i _ => psi_le _ _
  have h2 := psiS_le g.t0 g.s
  have h3 : 20 * g.t0.j ≤ 20 * W := Nat.mul_le_mul_left 20 h
  omega
theorem rank_big {g g' : GS} (h : g'.t0.j ≤ W) (hl : Phi W n g' < Phi W n g) : rank W n g' < rank W n g := by
  unfold rank
  have h1 := Psi_le (W := W) g' h
  have h2 : (Phi W n g' + 1) * (20 * W + 30) ≤ Phi W n g * (20 * W + 30) := Nat.mul_le_mul_right _ hl
  rw [Nat.add_mul] at h2
  omega
theorem rank_small {g g' : GS} (h : Phi W n g' = Phi W n g) (hl : Psi g' < Psi g) : rank W n g' < rank W n g := by
  unfold rank
  rw [h]
  omega

/-- ████ A WORKER's STEP LOWERS THE RANK. ████ -/
theorem rank_worker (hW : 0 < W) {g : GS} (h : Inv W n B nm S0 g) (hk : k < g.t0.j) (hm : Mv W n nm (g.th k) g.s T' s') : rank W n ⟨g.t0, upd g.th k T', s'⟩ < rank W n g := by
  obtain ⟨t, th, s⟩ := g
  simp only at hk hm
  have p1 := sumTo_upd th T' (fun T => phi W n T) hk
  have hj : t.j ≤ W := h.jW
  rcases hm with ⟨hc, hss, c', hlt, rfl⟩ | ⟨hc, X, c', hst, rfl, hc'⟩
  · obtain rfl : s = s' := hss.symm
    refine rank_big hj ?_
    unfold Phi
    simp only
    have : phi W n { th k with c := c' } < phi W n (th k) := by show 20 * (100 * (n + W - (th k).i) + base (th k)) + c' < 20 * (100 * (n + W - (th k).i) + base (th k)) + (th k).c; omega
    simp only at this
    omega
  · rcases phi_step hW hst hc (h.locM k hk) (h.onc.loc k hk) (h.cont.item k hk).2.1 hc' with h1 | ⟨h1, h2, h3⟩
    · refine rank_big hj ?_
      unfold Phi
      simp only at p1 ⊢
      omega
    · subst h1
      refine rank_small ?_ ?_
      · unfold Phi
        simp only at p1 ⊢
        omega
      · unfold Psi
        have p2 := sumTo_upd th { X with c := c' } (fun T => psi T s') hk
        simp only at p2 ⊢
        omega
theorem rank_starter {g : GS} (h : Inv W n B nm S0 g) {X : St} (hs : StepS W g.t0 g.s X s') (hp : g.t0.pc ≠ .sg) : rank W n ⟨X, g.th, s'⟩ < rank W n g := by
  obtain ⟨t, th, s⟩ := g
  simp only at hs hp
  have hj : t.j ≤ W := h.jW
  have big : X.j = t.j → sems s' = sems s → sbase X.pc < sbase t.pc → rank W n ⟨X, th, s'⟩ < rank W n ⟨t, th, s⟩ := by
    intro h1 h2 h3
    refine rank_big (by show X.j ≤ W; rw [h1]; exact hj) ?_
    unfold Phi phiS
    simp only
    rw [h1, h2]
    omega
  have small : X.j = t.j → s' = s → sbase X.pc = sbase t.pc → psiS X s < psiS t s → rank W n ⟨X, th, s'⟩ < rank W n ⟨t, th, s⟩ := by
    intro h1 h2 h3 h4
    subst h2
    refine rank_small ?_ ?_
    · unfold Phi phiS
      simp only
      rw [h1, h3]
    · unfold Psi
      simp only
      rw [h1]
      omega
  cases hq : t.pc <;> simp only [StepS, hq] at hs
  case sb => obtain ⟨⟨z, rfl⟩, rfl⟩ := hs; exact big rfl rfl (by simp [sbase, hq])
  case sa => obtain ⟨rfl, rfl⟩ := hs; exact big rfl rfl (by by_cases e : s.wv = 0 <;> simp [sbase, hq, e])
  case sg => exact absurd hq hp
  case w1 =>
    obtain ⟨⟨h0, rfl⟩ | ⟨h0, rfl⟩, rfl⟩ := hs
    · exact big rfl rfl (by simp [sbase, hq])
    · exact small rfl rfl (by simp [sbase, hq]) (by simp [psiS, hq])
  case w2 =>
    rcases hs with ⟨h0, rfl, rfl⟩ | ⟨h0, rfl, rfl⟩
    · exact big rfl rfl (by simp [sbase, hq])
    · exact small rfl rfl (by simp [sbase, hq]) (by simp [psiS, hq, h0])
  case w3 => obtain ⟨_, rfl, rfl⟩ := hs; exact big rfl rfl (by simp [sbase, hq])
  all_goals (obtain ⟨rfl, rfl⟩ := hs; exact big rfl rfl (by simp [sbase, hq]))
theorem rank_spawn {g : GS} (h : Inv W n B nm S0 g) (hp : g.t0.pc = .sg) {T : Wk} (hT : New n g.t0.j T) (hc : T.c ≤ 16) :
    rank W n ⟨{ g.t0 with pc := if g.t0.j + 1 < W then .sb else .kd, j := g.t0.j + 1 }, upd g.th g.t0.j T, g.s⟩ < rank W n g := by
  obtain ⟨t, th, s⟩ := g
  simp only at hp hT ⊢
  have hg := h.grp
  unfold Grp at hg
  simp only [hp] at hg
  have hjW : t.j < W := hg.1
  refine rank_big hjW ?_
  unfold Phi phiS
  simp only
  rw [sum_new th T (fun T => phi W n T) t.j, hp]
  have hphi : phi W n T ≤ 20 * (100 * (n + W) + 98) + 16 := by
    unfold phi
    have : base T ≤ 98 := by rcases hT.pc with ⟨_, e⟩ | ⟨_, e⟩ <;> simp [base, e]
    omega
  obtain ⟨d, hd⟩ : ∃ d, W - t.j = d + 1 := ⟨W - t.j - 1, by omega⟩
  have hd' : W - (t.j + 1) = d := by omega
  rw [hd, hd', Nat.add_mul]
  have : sbase (if t.j + 1 < W then Sc.sb else .kd) ≤ 18 := by split <;> simp [sbase]
  simp only [sbase] at this ⊢
  omega
end
end Go.Proofs.Ytnlopklbbajlbaa.Sw
