/- LightOnce: what a step lists is allowed; what holds of the trace beside the goroutines. -/
import Derived.Test.YtnlopklbbajlbaaSwV
namespace Go.Proofs.Ytnlopklbbajlbaa.Sw
open Go Go.Conc Go.ConcN
open Go.ConcR (stA smA DC0)

def idW (c : TC) (k : Nat) : Nat := c.e + 1 + k
/-- It owns what the lock, or the once, guards. -/
def owns (T : Wk) : Bool :=
  match T.pc with
  | .al | .sl | .dst | .lk1 | .lk2 | .dr | .ia1 | .ian | .iba | .ibr | .in2 => true
  | .ur => !T.b
  | _ => false
/-- It has seen that the once is done. -/
def passd (T : Wk) : Bool :=
  match T.pc with
  | .md | .m0 | .mr0 | .msq | .mc1 | .mr1 | .mc2 | .mt1 | .ms1 | .mt2 | .mr2 | .ma1 | .mr3 | .me | .ma => !T.b
  | .lk1 | .lk2 | .dr | .ia1 | .ian | .iba | .ibr | .in2 | .ur | .ud | .u0 | .uc | .ux | .us | .ue => true
  | _ => false
def saidW (T : Wk) : Bool :=
  match T.pc with
  | .wk | .d1 | .d2 | .d3 | .d4 | .quit => true
  | _ => false
def moOf (s : Sh) : Option Nat := if 1 ≤ s.st then some s.mp else none
/-- Whose block is which. -/
def bxOf (c : TC) (g : GS) (i : Nat) : Option Nat := if i = 0 then bxS g.t0 else some (g.th (i - (c.e + 1))).bx

structure TI (c : TC) (g : GS) (own pdo : Option Nat) (Bd : Nat) (t : Trace) : Prop where
  tt : TT c g.t0.j (moOf g.s) own pdo g.s.done (bxOf c g) t
  ow1 : ∀ k, k < g.t0.j → (owns (g.th k) = true ↔ own = some (idW c k))
  ow2 : ∀ i, own = some i → ∃ k, k < g.t0.j ∧ i = idW c k
  pass : ∀ k, k < g.t0.j → passd (g.th k) = true → ∀ pd, pdo = some pd → Knows t (idW c k) pd
  pd0 : g.s.done = false → pdo = none
  deaf : ∀ k, k < g.t0.j → (g.th k).pc ≠ .quit → Deaf t (idW c k) = dfW (g.th k)
  deaf0 : Deaf t 0 = dfS g.t0
  rel : ∀ k, k < g.t0.j → saidW (g.th k) = true → ∃ r, RelW c t (idW c k) r
  low : ∀ op ∈ t, op.act.low Bd
  above : ∀ i, c.e + g.t0.j < i → Deaf t i = 0

section
variable {c : TC} {j : Nat} {mo own pdo : Option Nat} {bx : Nat → Option Nat} {g Bd : Nat}

theorem idW_sd {k : Nat} (hk : k < j) : Sd c j (idW c k) := .inr ⟨by unfold idW; omega, by unfold idW; omega⟩
theorem idW_inj {k k' : Nat} (h : idW c k = idW c k') : k = k' := by unfold idW at h; omega
theorem idW_ne {k : Nat} : idW c k ≠ 0 := by unfold idW; omega
theorem bxOf_w {gs : GS} (k : Nat) : bxOf c gs (idW c k) = some (gs.th k).bx := by
  unfold bxOf idW
  rw [if_neg (by omega)]
  congr 3
  omega

/-- One entry that is allowed, by goroutine g. -/
def EvO (c : TC) (j : Nat) (mo own pdo : Option Nat) (bx : Nat → Option Nat) (g Bd : Nat) (e : Event) : Prop :=
  (∀ fn pos, OkT c j mo own pdo bx g { g := g, fn, pos, act := .ofEvent e }) ∧ (MemAct.ofEvent e).low Bd

theorem evO_atomic {a : Addr} (x : Bool) (h : AtL c (.cell a)) (hd : x = true → pdo ≠ none → a ≠ dnA c) (hb : a.block < Bd) : EvO c j mo own pdo bx g Bd ⟨.cell a, x, true⟩ := by
  refine ⟨fun fn pos => ⟨rfl, by rw [ofEvent_cell0]; simp [NoRel], fun y hy => ?_⟩, by rw [ofEvent_cell0]; exact hb⟩
  simp only [ofEvent_cell0, MemAct.touch?, Option.some.injEq] at hy
  subst hy
  exact .inl ⟨h, rfl, fun h1 h2 e => hd h1 h2 (Loc.cell.inj e)⟩
theorem evO_mark {m : Mark} (h : (MemAct.mark m).touch? = none) (hn : NoRel c (.mark m)) (hl : (MemAct.mark m).low Bd) : EvO c j mo own pdo bx g Bd (mkE m) :=
  ⟨fun fn pos => ⟨rfl, hn, fun y hy => (by rw [show ({ g := g, fn, pos, act := .ofEvent (mkE m) } : MemOp).act.touch? = none from h] at hy; cases hy)⟩, hl⟩
theorem evO_ro {a : Addr} (h : RoL c (.cell a)) (hb : c.Low ≤ Bd) : EvO c j mo own pdo bx g Bd ⟨.cell a, false, false⟩ := by
  refine ⟨fun fn pos => ⟨rfl, by rw [ofEvent_cell0]; simp [NoRel], fun y hy => ?_⟩, by
    rw [ofEvent_cell0]
    obtain ⟨a', h1, h2, _⟩ := h
    cases h1
    exact Nat.lt_of_lt_of_le h2 hb⟩
  simp only [ofEvent_cell0, MemAct.touch?, Option.some.injEq] at hy
  subst hy
  exact .inr (.inr (.inl ⟨h, rfl⟩))
theorem evO_box {a : Addr} {b : Nat} (x : Bool) (h : bx g = some b) (ha : a.block = b) (hb : b < Bd) : EvO c j mo own pdo bx g Bd ⟨.cell a, x, false⟩ := by
  refine ⟨fun fn pos => ⟨rfl, by rw [ofEvent_cell0]; simp [NoRel], fun y hy => ?_⟩, by rw [ofEvent_cell0]; show a.block < Bd; omega⟩
  simp only [ofEvent_cell0, MemAct.touch?, Option.some.injEq] at hy
  subst hy
  exact .inr (.inr (.inr (.inl ⟨b, h, a, rfl, ha⟩)))
theorem evO_fr {k : Nat} (x : Bool) (hk : k < c.n) (ho : ow c j k = g) (hb : c.Low ≤ Bd) : EvO c j mo own pdo bx g Bd ⟨.cell ⟨c.F, k, none⟩, x, false⟩ := by
  refine ⟨fun fn pos => ⟨rfl, by rw [ofEvent_cell0]; simp [NoRel], fun y hy => ?_⟩, by rw [ofEvent_cell0]; exact Nat.lt_of_lt_of_le c.lf hb⟩
  simp only [ofEvent_cell0, MemAct.touch?, Option.some.injEq] at hy
  subst hy
  exact .inr (.inr (.inr (.inr (.inl ⟨k, hk, rfl, ho⟩))))
theorem evO_se (x : Bool) (ho : own = some g) (hb : c.Low ≤ Bd) : EvO c j mo own pdo bx g Bd ⟨.cell (seA c), x, false⟩ := by
  refine ⟨fun fn pos => ⟨rfl, by rw [ofEvent_cell0]; simp [NoRel], fun y hy => ?_⟩, by rw [ofEvent_cell0]; exact Nat.lt_of_lt_of_le c.la hb⟩
  simp only [ofEvent_cell0, MemAct.touch?, Option.some.injEq] at hy
  subst hy
  exact .inr (.inr (.inr (.inr (.inr ⟨.inl rfl, ho⟩))))
theorem ofEvent_obj (m : Nat) (x : Bool) : MemAct.ofEvent ⟨.obj m, x, false⟩ = .access ⟨.obj m, x, false⟩ := by cases x <;> rfl
theorem evO_map {m : Nat} (x : Bool) (hm : mo = some m) (ho : own = some g) (hb : m < Bd) : EvO c j mo own pdo bx g Bd ⟨.obj m, x, false⟩ := by
  refine ⟨fun fn pos => ⟨rfl, by rw [ofEvent_obj]; simp [NoRel], fun y hy => ?_⟩, by rw [ofEvent_obj]; exact hb⟩
  simp only [ofEvent_obj, MemAct.touch?, Option.some.injEq] at hy
  subst hy
  exact .inr (.inr (.inr (.inr (.inr ⟨.inr ⟨m, hm, rfl⟩, ho⟩))))
theorem atL_mx (b : Bool) : AtL c (.cell (mxA c b)) := ⟨mxA c b, rfl, .inr ⟨rfl, by cases b <;> simp [mxA, seA]⟩⟩
theorem atL_ms (b : Bool) : AtL c (.cell (msA c b)) := ⟨msA c b, rfl, .inr ⟨rfl, by cases b <;> simp [msA, seA]⟩⟩
theorem atL_dn : AtL c (.cell (dnA c)) := ⟨dnA c, rfl, .inr ⟨rfl, by simp [dnA, seA]⟩⟩
theorem atL_nm : AtL c (.cell (nmA c)) := ⟨nmA c, rfl, .inr ⟨rfl, by simp [nmA, seA]⟩⟩
theorem atL_st : AtL c (.cell (stA c.Wg)) := ⟨stA c.Wg, rfl, .inl rfl⟩
theorem atL_sm : AtL c (.cell (smA c.Wg)) := ⟨smA c.Wg, rfl, .inl rfl⟩
theorem mx_ne_dn (b : Bool) : mxA c b ≠ dnA c := by cases b <;> simp [mxA, dnA]
theorem ms_ne_dn (b : Bool) : msA c b ≠ dnA c := by cases b <;> simp [msA, dnA]
theorem nm_ne_dn : nmA c ≠ dnA c := by simp [nmA, dnA]
theorem st_ne_dn : stA c.Wg ≠ dnA c := by intro e; have := c.aW; simp only [stA, dnA, Addr.mk.injEq] at e; exact this e.1.symm
theorem sm_ne_dn : smA c.Wg ≠ dnA c := by simp [smA, dnA]

theorem evO_sem {a : Addr} (h : AtL c (.cell a)) (hd : a ≠ dnA c) (hb : a.block < Bd) : ∀ e ∈ semEvents a, EvO c j mo own pdo bx g Bd e := by
  intro e he
  simp [semEvents] at he
  rcases he with rfl | rfl | rfl | rfl
  · exact evO_mark (m := .disable) rfl (by simp [NoRel]) trivial
  · exact evO_atomic _ h (fun e => by cases e) hb
  · exact evO_atomic _ h (fun _ _ => hd) hb
  · exact evO_mark (m := .enable) rfl (by simp [NoRel]) trivial
theorem evO_atm {a : Addr} {es : Array Event} (he : Atm a es) (h : AtL c (.cell a)) (hd : a ≠ dnA c) (hb : a.block < Bd) : ∀ e ∈ es, EvO c j mo own pdo bx g Bd e := by
  intro e h1
  obtain ⟨x, rfl⟩ := he e h1
  exact evO_atomic _ h (fun _ _ => hd) hb
theorem one_mem {α : Type} {x y : α} (h : x ∈ #[y]) : x = y := by simpa using h

/-- ████ ALL THAT A WORKER's STEP LISTS IS ALLOWED. ████ -/
theorem evW_ok {gs : GS} {t : Trace} {k : Nat} {es : Array Event} (h : TI c gs own pdo Bd t) (hk : k < gs.t0.j) (hO : LocO (gs.th k) gs.s) (hI : LocI c.W c.n k (gs.th k)) (hB : c.Low ≤ Bd)
    (hbx : (gs.th k).bx < Bd) (hmp : 1 ≤ gs.s.st → gs.s.mp < Bd) (h2 : gs.s.done = true → gs.s.st = 2) (he : EvW c (gs.th k) gs.s es) :
    ∀ e ∈ es, EvO c gs.t0.j (moOf gs.s) own pdo (bxOf c gs) (idW c k) Bd e := by
  have la := c.la
  have lw := c.lw
  have lA : ∀ off, (⟨c.A, off, none⟩ : Addr).block < Bd := fun _ => by show c.A < Bd; omega
  unfold EvW at he
  split at he
  · intro e h1
    obtain ⟨a, rfl, h3 | h3⟩ := he e h1
    · exact evO_ro h3 hB
    · exact evO_box _ (bxOf_w k) h3 hbx
  · have own_of : owns (gs.th k) = true → own = some (idW c k) := fun x => (h.ow1 k hk).1 x
    have none_of : ∀ {P : Event → Prop}, es = #[] → ∀ e ∈ es, P e := fun e0 e h1 => by rw [e0] at h1; simp at h1
    have mo_of : gs.s.done = true → moOf gs.s = some gs.s.mp := fun hd => by simp [moOf, h2 hd]
    unfold LocO at hO
    cases hp : (gs.th k).pc <;> simp only [hp] at he hO
    case dn0 => subst he; intro e h1; rw [one_mem h1]; exact evO_atomic _ atL_dn (fun e => by cases e) (lA _)
    case dn1 => subst he; intro e h1; rw [one_mem h1]; exact evO_atomic _ atL_dn (fun e => by cases e) (lA _)
    case md => subst he; intro e h1; rw [one_mem h1]; exact evO_mark rfl (by simp [NoRel]) trivial
    case ud => subst he; intro e h1; rw [one_mem h1]; exact evO_mark rfl (by simp [NoRel]) trivial
    case wk => subst he; intro e h1; rw [one_mem h1]; exact evO_mark rfl (by simp [NoRel]) trivial
    case me => subst he; intro e h1; rw [one_mem h1]; exact evO_mark rfl (by simp [NoRel]) trivial
    case ue => subst he; intro e h1; rw [one_mem h1]; exact evO_mark rfl (by simp [NoRel]) trivial
    case ma => subst he; intro e h1; rw [one_mem h1]; exact evO_mark rfl (by simp [NoRel]) (lA _)
    case ur => subst he; intro e h1; rw [one_mem h1]; exact evO_mark rfl (by simp [NoRel]) (lA _)
    case wr => subst he; intro e h1; rw [one_mem h1]; exact evO_mark rfl (by simp [NoRel]) (by show c.Wg < Bd; omega)
    case m0 => exact evO_atm he (atL_mx _) (mx_ne_dn _) (lA _)
    case mc1 => exact evO_atm he (atL_mx _) (mx_ne_dn _) (lA _)
    case mc2 => exact evO_atm he (atL_mx _) (mx_ne_dn _) (lA _)
    case ma1 => exact evO_atm he (atL_mx _) (mx_ne_dn _) (lA _)
    case u0 => exact evO_atm he (atL_mx _) (mx_ne_dn _) (lA _)
    case uc => exact evO_atm he (atL_mx _) (mx_ne_dn _) (lA _)
    case ms1 => subst he; exact evO_sem (atL_ms _) (ms_ne_dn _) (lA _)
    case us => subst he; exact evO_sem (atL_ms _) (ms_ne_dn _) (lA _)
    case sl => subst he; intro e h1; rw [one_mem h1]; exact evO_se _ (own_of (by simp [owns, hp])) hB
    case dst => subst he; intro e h1; rw [one_mem h1]; exact evO_atomic _ atL_dn (fun _ x => absurd (h.pd0 hO.2.1) x) (lA _)
    case lk1 => subst he; intro e h1; rw [one_mem h1]; exact evO_se _ (own_of (by simp [owns, hp])) hB
    case ia1 => subst he; intro e h1; rw [one_mem h1]; exact evO_se _ (own_of (by simp [owns, hp])) hB
    case ibr => subst he; intro e h1; rw [one_mem h1]; exact evO_se _ (own_of (by simp [owns, hp])) hB
    case lk2 => intro e h1; obtain ⟨x, rfl⟩ := he e h1; exact evO_map _ (mo_of hO.2) (own_of (by simp [owns, hp])) (hmp (by rw [h2 hO.2]; omega))
    case in2 => intro e h1; obtain ⟨x, rfl⟩ := he e h1; exact evO_map _ (mo_of hO.2) (own_of (by simp [owns, hp])) (hmp (by rw [h2 hO.2]; omega))
    case ian => exact evO_atm he atL_nm nm_ne_dn (lA _)
    case iba => exact evO_atm he atL_nm nm_ne_dn (lA _)
    case wf =>
      intro e h1
      rw [he e h1]
      have hlt := hI.2.1 (by rw [hp]; rfl)
      exact evO_fr _ hlt (by unfold ow; rw [hI.1, if_pos hk]; rfl) hB
    case d1 => exact evO_atm he atL_st st_ne_dn (by show c.Wg < Bd; omega)
    case d2 => exact evO_atm he atL_st st_ne_dn (by show c.Wg < Bd; omega)
    case d3 => exact evO_atm he atL_st st_ne_dn (by show c.Wg < Bd; omega)
    case d4 => subst he; exact evO_sem atL_sm sm_ne_dn (by show c.Wg < Bd; omega)
    all_goals exact none_of he
end
end Go.Proofs.Ytnlopklbbajlbaa.Sw

namespace Go.Proofs.Ytnlopklbbajlbaa.Sw
open Go Go.Conc Go.ConcN
open Go.ConcR (stA smA DC0)

section
variable {c : TC} {gs : GS} {own pdo own' pdo' : Option Nat} {Bd Bd' k : Nat} {t : Trace} {T' : Wk} {s' : Sh} {es : Array Event} {fn : FuncId} {pos : String}

theorem ofE_g {g : Nat} : ∀ op ∈ MemOp.ofEvents g fn pos es, op.g = g := fun op hop => by obtain ⟨e, _, rfl⟩ := Go.Conc.mem_ofEvents hop; rfl

/-- Put together. -/
theorem TI.build (h : TI c gs own pdo Bd t) (hk : k < gs.t0.j)
    (tt : TT c gs.t0.j (moOf s') own' pdo' s'.done (bxOf c ⟨gs.t0, upd gs.th k T', s'⟩) (t ++ MemOp.ofEvents (idW c k) fn pos es))
    (ow1 : ∀ k', k' < gs.t0.j → (owns (upd gs.th k T' k') = true ↔ own' = some (idW c k'))) (ow2 : ∀ i, own' = some i → ∃ k', k' < gs.t0.j ∧ i = idW c k')
    (pass : ∀ k', k' < gs.t0.j → passd (upd gs.th k T' k') = true → ∀ pd, pdo' = some pd → Knows (t ++ MemOp.ofEvents (idW c k) fn pos es) (idW c k') pd)
    (pd0 : s'.done = false → pdo' = none) (pcq : (gs.th k).pc ≠ .quit) (df : T'.pc ≠ .quit → deafBehind (dfW (gs.th k)) es = dfW T')
    (rel : saidW T' = true → ∃ r, RelW c (t ++ MemOp.ofEvents (idW c k) fn pos es) (idW c k) r) (low : ∀ e ∈ es, (MemAct.ofEvent e).low Bd') (hB : Bd ≤ Bd') :
    TI c ⟨gs.t0, upd gs.th k T', s'⟩ own' pdo' Bd' (t ++ MemOp.ofEvents (idW c k) fn pos es) := by
  refine ⟨tt, ow1, ow2, pass, pd0, fun k' hk' hq => ?_, ?_, fun k' hk' hs => ?_, fun op hop => ?_, fun i hi => ?_⟩
  · by_cases e : k' = k
    · subst e
      simp only [upd_same] at hq ⊢
      rw [Deaf_own, h.deaf k' hk pcq]
      exact df hq
    · simp only [upd_ne _ _ e] at hq ⊢
      rw [Deaf_other t (g' := idW c k) (fun x => e (idW_inj x).symm) _ ofE_g]
      exact h.deaf k' hk' hq
  · rw [Deaf_other t (g' := idW c k) idW_ne _ ofE_g]
    exact h.deaf0
  · by_cases e : k' = k
    · subst e
      simp only [upd_same] at hs
      exact rel hs
    · simp only [upd_ne _ _ e] at hs
      obtain ⟨r, hr⟩ := h.rel k' hk' hs
      exact ⟨r, hr.other fun op hop => by rw [ofE_g op hop]; exact fun x => e (idW_inj x).symm⟩
  · rcases Array.mem_append.1 hop with h1 | h1
    · exact MemAct.low_mono hB (h.low op h1)
    · obtain ⟨e, he, rfl⟩ := Go.Conc.mem_ofEvents h1
      exact low e he
  · rw [Deaf_other t (g' := idW c k) (by simp only at hi; unfold idW; omega) _ ofE_g]
    exact h.above i hi

theorem okT_of {j : Nat} {mo : Option Nat} {bx : Nat → Option Nat} {g : Nat} (h : ∀ e ∈ es, EvO c j mo own pdo bx g Bd e) : ∀ op ∈ MemOp.ofEvents g fn pos es, OkT c j mo own pdo bx g op := fun op hop => by
  obtain ⟨e, he, rfl⟩ := Go.Conc.mem_ofEvents hop
  exact (h e he).1 fn pos

theorem bxOf_upd (hb : T'.bx = (gs.th k).bx) : bxOf c ⟨gs.t0, upd gs.th k T', s'⟩ = bxOf c gs := by
  funext i
  unfold bxOf
  by_cases h0 : i = 0
  · simp only [h0, if_true]
  · simp only [if_neg h0]
    by_cases e : i - (c.e + 1) = k
    · rw [e, upd_same, hb]
    · rw [upd_ne _ _ e]

/-- A step that passes nothing on. -/
theorem TI.plain (h : TI c gs own pdo Bd t) (S : Sep c gs.t0.j (bxOf c gs)) (hk : k < gs.t0.j) (hev : ∀ e ∈ es, EvO c gs.t0.j (moOf gs.s) own pdo (bxOf c gs) (idW c k) Bd e) (hB : Bd ≤ Bd')
    (hown : owns T' = owns (gs.th k)) (hpass : passd T' = true → passd (gs.th k) = true) (hdn : s'.done = gs.s.done) (hmo : moOf s' = moOf gs.s) (hbx : T'.bx = (gs.th k).bx)
    (pcq : (gs.th k).pc ≠ .quit) (df : T'.pc ≠ .quit → deafBehind (dfW (gs.th k)) es = dfW T')
    (rel : saidW T' = true → saidW (gs.th k) = true ∧ ∀ i e, es[i]? = some e → (MemAct.ofEvent e).touch? = none ∨ ((∃ a wr, e = ⟨.cell a, wr, true⟩ ∧ a.block = c.Wg) ∧ 0 < deafBehind (dfW (gs.th k)) (es.extract 0 i))) :
    TI c ⟨gs.t0, upd gs.th k T', s'⟩ own pdo Bd' (t ++ MemOp.ofEvents (idW c k) fn pos es) := by
  refine h.build hk ?_ (fun k' hk' => ?_) h.ow2 (fun k' hk' hp pd hpd => ?_) (by rw [hdn]; exact h.pd0) pcq df (fun hs => ?_) (fun e he => MemAct.low_mono hB (hev e he).2) hB
  · rw [hmo, hdn, bxOf_upd hbx]
    exact h.tt.app S (idW_sd hk) (okT_of hev)
  · by_cases e : k' = k
    · subst e; rw [upd_same, hown]; exact h.ow1 k' hk'
    · rw [upd_ne _ _ e]; exact h.ow1 k' hk'
  · by_cases e : k' = k
    · subst e; rw [upd_same] at hp; exact (h.pass k' hk' (hpass hp) pd hpd).app _
    · rw [upd_ne _ _ e] at hp; exact (h.pass k' hk' hp pd hpd).app _
  · obtain ⟨h1, h2⟩ := rel hs
    obtain ⟨r, hr⟩ := h.rel k hk h1
    exact ⟨r, hr.self fn pos fun i e he => by rw [h.deaf k hk pcq]; exact h2 i e he⟩

theorem deaf_still {d : Nat} {es : Array Event} (h : ∀ e ∈ es, e.loc ≠ .mark .disable ∧ e.loc ≠ .mark .enable) : deafBehind d es = d := deafBehind_still h d
theorem deaf_sem (a : Addr) (d : Nat) : deafBehind d (semEvents a) = d := by
  simp [semEvents, deafBehind]
theorem atm_still {a : Addr} {d : Nat} (h : Atm a es) : deafBehind d es = d := deaf_still fun e he => by obtain ⟨x, rfl⟩ := h e he; simp
theorem atm_part {a : Addr} {d : Nat} (h : Atm a es) (i : Nat) : deafBehind d (es.extract 0 i) = d := deaf_still fun e he => by
  have : e ∈ es := by
    have := Array.mem_iff_getElem?.1 he
    obtain ⟨j, hj⟩ := this
    rw [Array.getElem?_extract] at hj
    split at hj
    · exact Array.mem_of_getElem? hj
    · cases hj
  obtain ⟨x, rfl⟩ := h e this
  simp

theorem dfW_head (T : Wk) : dfW (head T) = 1 := by unfold head; split <;> rfl
theorem bx_head (T : Wk) : (head T).bx = T.bx := by unfold head; split <;> rfl
theorem owns_head (T : Wk) : owns (head T) = false := by unfold head; split <;> rfl
theorem saidW_head (T : Wk) : saidW (head T) = false := by unfold head; split <;> rfl
theorem passd_head (T : Wk) : passd (head T) = !T.b := by unfold head; split <;> rfl
end
end Go.Proofs.Ytnlopklbbajlbaa.Sw
