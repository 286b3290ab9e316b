/- LightOnce: what holds of the trace, through each of a worker's steps. -/
import Derived.Test.YtnlopklbbajlbaaSwN
set_option linter.unusedSimpArgs false
set_option linter.unusedVariables false
namespace Go.Proofs.Ytnlopklbbajlbaa.Sw
open Go Go.Conc Go.ConcN
open Go.ConcR (stA smA DC0)

section
variable {c : TC} {gs : GS} {own pdo own' pdo' : Option Nat} {Bd Bd' k B : Nat} {t : Trace} {T T' X : Wk} {s s' : Sh} {es : Array Event} {fn : FuncId} {pos : String} {nm : Nat → ByteArray} {S0 : List ByteArray}

theorem ofEvents_one (g : Nat) (e : Event) : MemOp.ofEvents g fn pos #[e] = #[{ g := g, fn, pos, act := .ofEvent e }] := by rw [ofEvents_eq]; simp
theorem ofEvents_nil (g : Nat) : t ++ MemOp.ofEvents g fn pos #[] = t := by rw [ofEvents_eq]; simp
theorem low_touch {x : MemAct} {y : Touch} {B : Nat} (h : x.low B) (hy : x.touch? = some y) : y.loc.low B := by
  cases x with
  | access e => simp only [MemAct.touch?, Option.some.injEq] at hy; subst hy; exact h
  | mark m => cases m <;> simp only [MemAct.touch?, Option.some.injEq, reduceCtorEq] at hy <;> (subst hy; exact h)
  | _ => cases hy
/-- A block that is not there yet has not been touched. -/
theorem TI.fresh (h : TI c gs own pdo Bd t) {i : Nat} {x : Touch} (hx : touchAt t i = some x) : ¬ BxL Bd x.loc ∧ x.loc ≠ .obj Bd := by
  obtain ⟨op, ho, hox⟩ := touch_of hx
  have hl := low_touch (h.low op (Array.mem_of_getElem? ho)) hox
  refine ⟨fun ⟨a, h1, h2⟩ => ?_, fun h1 => ?_⟩
  · rw [h1] at hl
    have : a.block < Bd := hl
    omega
  · rw [h1] at hl
    exact Nat.lt_irrefl _ hl
theorem passd_done (h : LocO T s) (hp : passd T = true) : s.done = true := by
  unfold LocO at h
  unfold passd at hp
  cases hq : T.pc <;> simp only [hq] at h hp <;> first | exact h (by simpa using hp) | exact h.2 | exact h | (exact absurd hp (by simp))
theorem owns_cases (h : LocO T s) (ho : owns T = true) : (s.done = false ∧ rb T true = 1) ∨ (s.done = true ∧ rb T false = 1) := by
  unfold LocO at h
  unfold owns at ho
  cases hq : T.pc <;> simp only [hq] at h ho <;> first
    | exact Bool.noConfusion ho
    | exact .inl ⟨h.2.1, by simp [rb, role, hq, h.1]⟩
    | exact .inr ⟨h.2, by simp [rb, role, hq, h.1]⟩
    | exact .inr ⟨h, by have hb : T.b = false := by simpa using ho
                        simp [rb, role, hq, hb]⟩

/-- Nobody owns where one is about to. -/
theorem TI.free (h : TI c gs own pdo Bd t) (I : Inv c.W c.n B nm S0 gs) (hk : k < gs.t0.j) (hno : owns (gs.th k) = false) {b : Bool} (hb : gs.s.done = !b) (hr : rb (gs.th k) b = 1) : own = none := by
  cases hq : own with
  | none => rfl
  | some i =>
    obtain ⟨k', hk', rfl⟩ := h.ow2 i hq
    have ho := (h.ow1 k' hk').2 hq
    have : k' = k := by
      rcases owns_cases (I.onc.loc k' hk') ho with ⟨h1, h2⟩ | ⟨h1, h2⟩
      · have : b = true := by cases b; rw [h1] at hb; cases hb; rfl
        subst this
        exact I.mb.one hk' hk h2 hr
      · have : b = false := by cases b; rfl; rw [h1] at hb; cases hb
        subst this
        exact I.mb.one hk' hk h2 hr
    subst this
    rw [hno] at ho
    cases ho

theorem moOf_of (h1 : s'.st = s.st) (h2 : s'.mp = s.mp) : moOf s' = moOf s := by unfold moOf; rw [h1, h2]

theorem sem_self (i : Nat) (e : Event) (he : (semEvents (smA c.Wg))[i]? = some e) : (MemAct.ofEvent e).touch? = none ∨ ((∃ a wr, e = ⟨.cell a, wr, true⟩ ∧ a.block = c.Wg) ∧ 0 < deafBehind 1 ((semEvents (smA c.Wg)).extract 0 i)) := by
  match i, he with
  | 0, he => left; simp [semEvents] at he; subst he; rfl
  | 1, he => right; simp [semEvents] at he; subst he; exact ⟨⟨_, _, rfl, rfl⟩, by simp [semEvents, deafBehind]⟩
  | 2, he => right; simp [semEvents] at he; subst he; exact ⟨⟨_, _, rfl, rfl⟩, by simp [semEvents, deafBehind]⟩
  | 3, he => left; simp [semEvents] at he; subst he; rfl
  | i + 4, he => simp [semEvents] at he

/-- ████ A WORKER's STEP. ████ -/
theorem TI.step (h : TI c gs own pdo Bd t) (I : Inv c.W c.n B nm S0 gs) (S : Sep c gs.t0.j (bxOf c gs)) (hk : k < gs.t0.j) (hst : Step c.W c.n nm (gs.th k) gs.s X s') (hc : (gs.th k).c = 0) (hev : EvW c (gs.th k) gs.s es)
    (hlow : c.Low ≤ Bd) (hbx : (gs.th k).bx < Bd) (hmp : 1 ≤ gs.s.st → gs.s.mp < Bd)
    (hsz : if (gs.th k).pc = .bx ∨ (gs.th k).pc = .al then Bd' = Bd + 1 ∧ ((gs.th k).pc = .bx → X.bx = Bd) ∧ ((gs.th k).pc = .al → s'.mp = Bd) else Bd' = Bd) (c' : Nat) :
    ∃ own' pdo', TI c ⟨gs.t0, upd gs.th k { X with c := c' }, s'⟩ own' pdo' Bd' (t ++ MemOp.ofEvents (idW c k) fn pos es) ∧ (X.pc = .quit → Deaf (t ++ MemOp.ofEvents (idW c k) fn pos es) (idW c k) = 1) := by
  have hO := I.onc.loc k hk
  have hI := I.cont.item k hk
  have r := step_rest hst
  have hok := evW_ok (es := es) h hk hO hI hlow hbx hmp I.onc.yes hev
  have hdf := fun hq => h.deaf k hk hq
  unfold EvW at hev
  rw [if_neg (by omega)] at hev
  have hO' := hO
  unfold LocO at hO'
  -- the plain steps
  have plain : owns X = owns (gs.th k) → (passd X = true → passd (gs.th k) = true) → (gs.th k).pc ≠ .dst → (gs.th k).pc ≠ .al → (gs.th k).pc ≠ .sl → (gs.th k).pc ≠ .bx → X.bx = (gs.th k).bx → (gs.th k).pc ≠ .quit →
      (X.pc ≠ .quit → deafBehind (dfW (gs.th k)) es = dfW X) → (X.pc = .quit → deafBehind (dfW (gs.th k)) es = 1) →
      (saidW X = true → saidW (gs.th k) = true ∧ ∀ i e, es[i]? = some e → (MemAct.ofEvent e).touch? = none ∨ ((∃ a wr, e = ⟨.cell a, wr, true⟩ ∧ a.block = c.Wg) ∧ 0 < deafBehind (dfW (gs.th k)) (es.extract 0 i))) →
      ∃ own' pdo', TI c ⟨gs.t0, upd gs.th k { X with c := c' }, s'⟩ own' pdo' Bd' (t ++ MemOp.ofEvents (idW c k) fn pos es) ∧ (X.pc = .quit → Deaf (t ++ MemOp.ofEvents (idW c k) fn pos es) (idW c k) = 1) := by
    intro h1 h2 n1 n2 n3 n4 h3 hq h4 h5 h6
    rw [if_neg (by rintro (x | x); exact n4 x; exact n2 x)] at hsz
    subst hsz
    refine ⟨own, pdo, h.plain S hk hok (Nat.le_refl _) h1 h2 (by rw [r.done, if_neg n1]) (moOf_of (by rw [r.st, if_neg n2, if_neg n3]) (r.mp n2)) h3 hq h4 h6, fun e => ?_⟩
    rw [Deaf_own, hdf hq]
    exact h5 e
  have nosaid : ∀ {p : Prop}, saidW X = false → saidW X = true → p := fun h1 h2 => by rw [h1] at h2; cases h2
  cases hp : (gs.th k).pc <;> simp only [Step, hp] at hst hev hO'
  case bx =>
    subst hev
    obtain ⟨⟨z, rfl⟩, rfl⟩ := hst
    rw [if_pos (.inl hp)] at hsz
    obtain ⟨rfl, hz, _⟩ := hsz
    have hz' : z = Bd := hz hp
    subst hz'
    refine ⟨own, pdo, h.build hk ?_ (fun k' hk' => ?_) h.ow2 (fun k' hk' hp' pd hpd => ?_) h.pd0 (by rw [hp]; simp) (fun _ => by simp [dfW, hp]; rfl) (fun hs => (by cases hs)) (fun e he => by simp at he) (by omega), fun e => by cases e⟩
    · rw [ofEvents_nil]
      have hb := h.tt.rebox (g := idW c k) (o := some z) (fun b hb i x hx hB => by
        cases hb
        exact (h.fresh hx).1 hB)
      refine hb.boxes fun g hg => ?_
      by_cases e : g = idW c k
      · subst e; rw [upd_same, bxOf_w]; simp only [upd_same]
      · rw [upd_ne _ _ e]
        unfold bxOf
        by_cases h0 : g = 0
        · simp only [h0, if_true]
        · simp only [if_neg h0]
          rw [upd_ne _ _ (fun x => e (by
            rcases hg with hg | hg
            · exact absurd hg h0
            · unfold idW; omega))]
    · by_cases e : k' = k
      · subst e; rw [upd_same]; have := h.ow1 k' hk'; simp only [owns, hp] at this ⊢; exact this
      · rw [upd_ne _ _ e]; exact h.ow1 k' hk'
    · by_cases e : k' = k
      · subst e; rw [upd_same] at hp'; cases hp'
      · rw [upd_ne _ _ e] at hp'; exact (h.pass k' hk' hp' pd hpd).app _
  case dn0 =>
    subst hev
    obtain ⟨rfl, rfl⟩ := hst
    rw [if_neg (by simp [hp])] at hsz
    subst hsz
    refine ⟨own, pdo, h.build hk ?_ (fun k' hk' => ?_) h.ow2 (fun k' hk' hp' pd hpd => ?_) h.pd0 (by rw [hp]; simp) (fun _ => by simp [dfW, hp, deafBehind, rdE]) (fun hs => (by cases hs)) (fun e he => (hok e he).2) (Nat.le_refl _), fun e => by cases e⟩
    · have e1 : bxOf c ⟨gs.t0, upd gs.th k { gs.th k with pc := .md, b := !gs.s.done, aw := false, sv := false, c := c' }, gs.s⟩ = bxOf c gs := bxOf_upd rfl
      (rw [bxOf_upd]; rotate_left; rfl)
      exact h.tt.app S (idW_sd hk) (okT_of hok)
    · by_cases e : k' = k
      · subst e; rw [upd_same]; have := h.ow1 k' hk'; simp only [owns, hp] at this ⊢; exact this
      · rw [upd_ne _ _ e]; exact h.ow1 k' hk'
    · by_cases e : k' = k
      · subst e
        rw [ofEvents_one]
        exact h.tt.passes (z := { g := idW c k', fn, pos, act := .ofEvent (rdE (dnA c)) }) rfl (by rw [hdf (by rw [hp]; simp)]; simp [dfW, hp]) hpd
      · rw [upd_ne _ _ e] at hp'; exact (h.pass k' hk' hp' pd hpd).app _
  case dn1 =>
    subst hev
    obtain ⟨rfl, rfl⟩ := hst
    rw [if_neg (by simp [hp])] at hsz
    subst hsz
    have hb : (gs.th k).b = true := hO'
    have htt := h.tt.app (u := MemOp.ofEvents (idW c k) fn pos #[rdE (dnA c)]) S (idW_sd hk) (okT_of hok)
    have hr1 : rb (gs.th k) true = 1 := by simp [rb, role, hp, hb]
    have hno : owns (gs.th k) = false := by simp [owns, hp]
    rcases (show gs.s.done = false ∨ gs.s.done = true by cases gs.s.done <;> simp) with hd | hd
    · -- it owns
      have hown := h.free I hk hno (b := true) (by rw [hd]; rfl) hr1
      subst hown
      refine ⟨some (idW c k), pdo, h.build hk ?_ (fun k' hk' => ?_) (fun i hi => ⟨k, hk, (Option.some.inj hi).symm⟩) (fun k' hk' hp' pd hpd => ?_) (fun _ => h.pd0 hd) (by rw [hp]; simp) (fun _ => by simp [dfW, hp, hd, deafBehind, rdE]) (fun hs => (by simp [saidW, hd] at hs)) (fun e he => (hok e he).2) (Nat.le_refl _), fun e => by simp [hd] at e⟩
      · (rw [bxOf_upd]; rotate_left; rfl)
        rw [hd] at htt ⊢
        exact htt.take0 (idW_sd hk)
      · by_cases e : k' = k
        · subst e; rw [upd_same]; simp [owns, hd]
        · rw [upd_ne _ _ e]
          refine ⟨fun x => (by have := (h.ow1 k' hk').1 x; cases this), fun x => absurd (idW_inj (Option.some.inj x)).symm e⟩
      · by_cases e : k' = k
        · subst e; rw [upd_same] at hp'; simp [passd, hd] at hp'
        · rw [upd_ne _ _ e] at hp'; exact (h.pass k' hk' hp' pd hpd).app _
    · refine ⟨own, pdo, h.build hk ?_ (fun k' hk' => ?_) h.ow2 (fun k' hk' hp' pd hpd => ?_) h.pd0 (by rw [hp]; simp) (fun _ => by simp [dfW, hp, hd, deafBehind, rdE]) (fun hs => (by simp [saidW, hd] at hs)) (fun e he => (hok e he).2) (Nat.le_refl _), fun e => by simp [hd] at e⟩
      · (rw [bxOf_upd]; rotate_left; rfl)
        exact htt
      · by_cases e : k' = k
        · subst e; rw [upd_same]; have := h.ow1 k' hk'; simp only [owns, hp, hd, hb] at this ⊢; simpa using this
        · rw [upd_ne _ _ e]; exact h.ow1 k' hk'
      · by_cases e : k' = k
        · subst e
          rw [ofEvents_one]
          exact h.tt.passes (z := { g := idW c k', fn, pos, act := .ofEvent (rdE (dnA c)) }) rfl (by rw [hdf (by rw [hp]; simp)]; simp [dfW, hp]) hpd
        · rw [upd_ne _ _ e] at hp'; exact (h.pass k' hk' hp' pd hpd).app _
  case ma =>
    subst hev
    obtain ⟨rfl, rfl⟩ := hst
    rcases (show (gs.th k).b = false ∨ (gs.th k).b = true by cases (gs.th k).b <;> simp) with hb | hb
    · -- the lock
      rw [if_neg (by simp [hp])] at hsz
      subst hsz
      have hno : owns (gs.th k) = false := by simp [owns, hp]
      have hd : gs.s.done = true := hO' hb
      have hown := h.free I hk hno (b := false) (by rw [hd]; rfl) (by simp [rb, role, hp, hb])
      subst hown
      have hd0 : Deaf t (idW c k) = 0 := by rw [hdf (by rw [hp]; simp)]; simp [dfW, hp]
      refine ⟨some (idW c k), pdo, h.build hk ?_ (fun k' hk' => ?_) (fun i hi => ⟨k, hk, (Option.some.inj hi).symm⟩) (fun k' hk' hp' pd hpd => ?_) h.pd0 (by rw [hp]; simp) (fun _ => by simp [dfW, hp, deafBehind, mkE, hb]) (fun hs => (by simp [saidW, hb] at hs)) (fun e he => (hok e he).2) (Nat.le_refl _), fun e => by simp [hb] at e⟩
      · (rw [bxOf_upd]; rotate_left; rfl)
        rw [ofEvents_one]
        have := h.tt.acquire (z := { g := idW c k, fn, pos, act := .ofEvent (mkE (.acquire (mxA c (gs.th k).b))) }) (idW_sd hk) (by rw [hb]; rfl) hd0 (fun pd hpd => h.pass k hk (by simp [passd, hp, hb]) pd hpd)
        rw [hb] at this ⊢
        exact this
      · by_cases e : k' = k
        · subst e; rw [upd_same]; simp [owns, hb]
        · rw [upd_ne _ _ e]
          refine ⟨fun x => (by have := (h.ow1 k' hk').1 x; cases this), fun x => absurd (idW_inj (Option.some.inj x)).symm e⟩
      · by_cases e : k' = k
        · subst e; exact (h.pass k' hk' (by simp [passd, hp, hb]) pd hpd).app _
        · rw [upd_ne _ _ e] at hp'; exact (h.pass k' hk' hp' pd hpd).app _
    · exact plain (by simp [owns, hp, hb]) (by simp [passd, hp, hb]) (by rw [hp]; simp) (by rw [hp]; simp) (by rw [hp]; simp) (by rw [hp]; simp) rfl (by rw [hp]; simp) (fun _ => by simp [dfW, hp, hb, deafBehind, mkE]) (by simp [hb]) (by simp [saidW, hb])
  case al =>
    subst hev
    obtain ⟨z, rfl, rfl⟩ := hst
    rw [if_pos (.inr hp)] at hsz
    obtain ⟨rfl, _, hz⟩ := hsz
    have hz' : z = Bd := hz hp
    subst hz'
    have hown : own = some (idW c k) := (h.ow1 k hk).1 (by simp [owns, hp])
    subst hown
    refine ⟨some (idW c k), pdo, h.build hk ?_ (fun k' hk' => ?_) h.ow2 (fun k' hk' hp' pd hpd => ?_) h.pd0 (by rw [hp]; simp) (fun _ => by simp [dfW, hp, deafBehind]) (fun hs => (by cases hs)) (fun e he => by simp at he) (by omega), fun e => by cases e⟩
    · rw [ofEvents_nil]
      have e0 : moOf gs.s = none := by simp [moOf, hO'.2.2]
      have htt := h.tt
      rw [e0] at htt
      (rw [bxOf_upd]; rotate_left; rfl)
      exact htt.newMap (m := z) fun i x hx => (h.fresh hx).2
    · by_cases e : k' = k
      · subst e; rw [upd_same]; simp [owns]
      · rw [upd_ne _ _ e]; exact h.ow1 k' hk'
    · by_cases e : k' = k
      · subst e; rw [upd_same] at hp'; cases hp'
      · rw [upd_ne _ _ e] at hp'; exact (h.pass k' hk' hp' pd hpd).app _
  case sl =>
    subst hev
    obtain ⟨rfl, rfl⟩ := hst
    rw [if_neg (by simp [hp])] at hsz
    subst hsz
    refine ⟨own, pdo, h.plain S hk hok (Nat.le_refl _) (by simp [owns, hp]) (by simp [passd]) rfl (by simp [moOf, hO'.2.2.1]) rfl (by rw [hp]; simp) (fun _ => by simp [dfW, hp, deafBehind]) (by simp [saidW]), fun e => by cases e⟩
  case dst =>
    subst hev
    obtain ⟨rfl, rfl⟩ := hst
    rw [if_neg (by simp [hp])] at hsz
    subst hsz
    have hown : own = some (idW c k) := (h.ow1 k hk).1 (by simp [owns, hp])
    subst hown
    have hpd0 : pdo = none := h.pd0 hO'.2.1
    subst hpd0
    have hd0 : Deaf t (idW c k) = 0 := by rw [hdf (by rw [hp]; simp)]; simp [dfW, hp]
    have htt := h.tt
    rw [hO'.2.1] at htt
    refine ⟨none, some t.size, h.build hk ?_ (fun k' hk' => ?_) (fun i hi => (by cases hi)) (fun k' hk' hp' pd hpd => ?_) (fun e => (by cases e)) (by rw [hp]; simp) (fun _ => by simp [dfW, hp, deafBehind, wrE]) (fun hs => (by cases hs)) (fun e he => (hok e he).2) (Nat.le_refl _), fun e => by cases e⟩
    · (rw [bxOf_upd]; rotate_left; rfl)
      rw [ofEvents_one]
      exact htt.publish S (z := { g := idW c k, fn, pos, act := .ofEvent (wrE (dnA c)) }) rfl rfl hd0
    · by_cases e : k' = k
      · subst e; rw [upd_same]; simp [owns, hO'.1]
      · rw [upd_ne _ _ e]
        refine ⟨fun x => absurd (idW_inj (Option.some.inj ((h.ow1 k' hk').1 x))).symm e, fun x => by cases x⟩
    · cases hpd
      by_cases e : k' = k
      · subst e
        rw [ofEvents_one]
        exact knows_own (size_one t { g := idW c k', fn, pos, act := .ofEvent (wrE (dnA c)) })
      · rw [upd_ne _ _ e] at hp'
        have := passd_done (I.onc.loc k' hk') hp'
        rw [hO'.2.1] at this
        cases this
  case ur =>
    subst hev
    obtain ⟨rfl, rfl⟩ := hst
    rcases (show (gs.th k).b = false ∨ (gs.th k).b = true by cases (gs.th k).b <;> simp) with hb | hb
    · rw [if_neg (by simp [hp])] at hsz
      subst hsz
      have hown : own = some (idW c k) := (h.ow1 k hk).1 (by simp [owns, hp, hb])
      subst hown
      have hd0 : Deaf t (idW c k) = 0 := by rw [hdf (by rw [hp]; simp)]; simp [dfW, hp]
      have htt := h.tt
      rw [hO'] at htt
      refine ⟨none, pdo, h.build hk ?_ (fun k' hk' => ?_) (fun i hi => (by cases hi)) (fun k' hk' hp' pd hpd => ?_) h.pd0 (by rw [hp]; simp) (fun _ => by simp [dfW, hp, deafBehind, mkE]) (fun hs => (by cases hs)) (fun e he => (hok e he).2) (Nat.le_refl _), fun e => by cases e⟩
      · (rw [bxOf_upd]; rotate_left; rfl)
        rw [ofEvents_one, hb, hO']
        exact htt.release (z := { g := idW c k, fn, pos, act := .ofEvent (mkE (.releaseMerge (mxA c false))) }) rfl rfl hd0
      · by_cases e : k' = k
        · subst e; rw [upd_same]; simp [owns]
        · rw [upd_ne _ _ e]
          refine ⟨fun x => absurd (idW_inj (Option.some.inj ((h.ow1 k' hk').1 x))).symm e, fun x => by cases x⟩
      · by_cases e : k' = k
        · subst e; exact (h.pass k' hk' (by simp [passd, hp]) pd hpd).app _
        · rw [upd_ne _ _ e] at hp'; exact (h.pass k' hk' hp' pd hpd).app _
    · exact plain (by simp [owns, hp, hb]) (by simp [passd, hp]) (by rw [hp]; simp) (by rw [hp]; simp) (by rw [hp]; simp) (by rw [hp]; simp) rfl (by rw [hp]; simp) (fun _ => by simp [dfW, hp, deafBehind, mkE]) (by simp) (by simp [saidW])
  case wr =>
    subst hev
    obtain ⟨rfl, rfl⟩ := hst
    rw [if_neg (by simp [hp])] at hsz
    subst hsz
    have hd0 : Deaf t (idW c k) = 0 := by rw [hdf (by rw [hp]; simp)]; simp [dfW, hp]
    refine ⟨own, pdo, h.build hk ?_ (fun k' hk' => ?_) h.ow2 (fun k' hk' hp' pd hpd => ?_) h.pd0 (by rw [hp]; simp) (fun _ => by simp [dfW, hp, deafBehind, mkE]) (fun _ => ?_) (fun e he => (hok e he).2) (Nat.le_refl _), fun e => by cases e⟩
    · (rw [bxOf_upd]; rotate_left; rfl)
      exact h.tt.app S (idW_sd hk) (okT_of hok)
    · by_cases e : k' = k
      · subst e; rw [upd_same]; have := h.ow1 k' hk'; simp only [owns, hp] at this ⊢; exact this
      · rw [upd_ne _ _ e]; exact h.ow1 k' hk'
    · by_cases e : k' = k
      · subst e; rw [upd_same] at hp'; cases hp'
      · rw [upd_ne _ _ e] at hp'; exact (h.pass k' hk' hp' pd hpd).app _
    · rw [ofEvents_one]
      exact ⟨t.size, RelW.new (z := { g := idW c k, fn, pos, act := .ofEvent (mkE (.releaseMerge (stA c.Wg))) }) rfl hd0 h.tt.sz⟩
  case md =>
    obtain ⟨rfl, rfl⟩ := hst
    exact plain (by simp [owns, hp]) (by simp [passd, hp]) (by rw [hp]; simp) (by rw [hp]; simp) (by rw [hp]; simp) (by rw [hp]; simp) rfl (by rw [hp]; simp) (fun _ => by subst hev; simp [dfW, hp, deafBehind, mkE]) (by simp) (by simp [saidW])
  case m0 =>
    rcases hst with ⟨_, rfl, rfl⟩ | ⟨_, rfl, rfl⟩
    · exact plain (by simp [owns, hp]) (by simp [passd, hp]) (by rw [hp]; simp) (by rw [hp]; simp) (by rw [hp]; simp) (by rw [hp]; simp) rfl (by rw [hp]; simp) (fun _ => by rw [atm_still hev]; simp [dfW, hp]) (by simp) (by simp [saidW])
    · exact plain (by simp [owns, hp]) (by simp [passd, hp]) (by rw [hp]; simp) (by rw [hp]; simp) (by rw [hp]; simp) (by rw [hp]; simp) rfl (by rw [hp]; simp) (fun _ => by rw [atm_still hev]; simp [dfW, hp]) (by simp) (by simp [saidW])
  case mr0 =>
    obtain ⟨rfl, rfl⟩ := hst
    exact plain (by rw [owns_head]; simp [owns, hp]) (by rw [passd_head]; simp [passd, hp]) (by rw [hp]; simp) (by rw [hp]; simp) (by rw [hp]; simp) (by rw [hp]; simp) (bx_head _) (by rw [hp]; simp) (fun _ => by subst hev; rw [dfW_head]; simp [dfW, hp, deafBehind]) (fun e => by rcases head_pc _ with x | x <;> rw [x] at e <;> cases e) (by rw [saidW_head]; simp)
  case msq =>
    obtain ⟨rfl, rfl | ⟨_, _, _, rfl⟩ | ⟨_, rfl⟩⟩ := hst
    · exact plain (by simp [owns, hp]) (by simp [passd, hp]) (by rw [hp]; simp) (by rw [hp]; simp) (by rw [hp]; simp) (by rw [hp]; simp) rfl (by rw [hp]; simp) (fun _ => by subst hev; simp [dfW, hp, deafBehind]) (by simp) (by simp [saidW])
    · exact plain (by simp [owns, hp]) (by simp [passd, hp]) (by rw [hp]; simp) (by rw [hp]; simp) (by rw [hp]; simp) (by rw [hp]; simp) rfl (by rw [hp]; simp) (fun _ => by subst hev; simp [dfW, hp, deafBehind]) (by simp) (by simp [saidW])
    · exact plain (by simp [owns, hp]) (by simp [passd, hp]) (by rw [hp]; simp) (by rw [hp]; simp) (by rw [hp]; simp) (by rw [hp]; simp) rfl (by rw [hp]; simp) (fun _ => by subst hev; simp [dfW, hp, deafBehind]) (by simp) (by simp [saidW])
  case mc1 =>
    rcases hst with ⟨_, rfl, rfl⟩ | ⟨_, rfl, rfl⟩
    · exact plain (by simp [owns, hp]) (by simp [passd, hp]) (by rw [hp]; simp) (by rw [hp]; simp) (by rw [hp]; simp) (by rw [hp]; simp) rfl (by rw [hp]; simp) (fun _ => by rw [atm_still hev]; simp [dfW, hp]) (by simp) (by simp [saidW])
    · exact plain (by simp [owns, hp]) (by simp [passd, hp]) (by rw [hp]; simp) (by rw [hp]; simp) (by rw [hp]; simp) (by rw [hp]; simp) rfl (by rw [hp]; simp) (fun _ => by rw [atm_still hev]; simp [dfW, hp]) (by simp) (by simp [saidW])
  case mr1 =>
    obtain ⟨rfl, rfl⟩ := hst
    exact plain (by rw [owns_head]; simp [owns, hp]) (by rw [passd_head]; simp [passd, hp]) (by rw [hp]; simp) (by rw [hp]; simp) (by rw [hp]; simp) (by rw [hp]; simp) (bx_head _) (by rw [hp]; simp) (fun _ => by subst hev; rw [dfW_head]; simp [dfW, hp, deafBehind]) (fun e => by rcases head_pc _ with x | x <;> rw [x] at e <;> cases e) (by rw [saidW_head]; simp)
  case mc2 =>
    rcases hst with ⟨_, rfl, ⟨_, _, rfl⟩ | ⟨_, rfl | rfl⟩⟩ | ⟨_, rfl, rfl⟩
    · exact plain (by simp [owns, hp]) (by simp [passd, hp]) (by rw [hp]; simp) (by rw [hp]; simp) (by rw [hp]; simp) (by rw [hp]; simp) rfl (by rw [hp]; simp) (fun _ => by rw [atm_still hev]; simp [dfW, hp]) (by simp) (by simp [saidW])
    · exact plain (by simp [owns, hp]) (by simp [passd, hp]) (by rw [hp]; simp) (by rw [hp]; simp) (by rw [hp]; simp) (by rw [hp]; simp) rfl (by rw [hp]; simp) (fun _ => by rw [atm_still hev]; simp [dfW, hp]) (by simp) (by simp [saidW])
    · exact plain (by simp [owns, hp]) (by simp [passd, hp]) (by rw [hp]; simp) (by rw [hp]; simp) (by rw [hp]; simp) (by rw [hp]; simp) rfl (by rw [hp]; simp) (fun _ => by rw [atm_still hev]; simp [dfW, hp]) (by simp) (by simp [saidW])
    · exact plain (by simp [owns, hp]) (by simp [passd, hp]) (by rw [hp]; simp) (by rw [hp]; simp) (by rw [hp]; simp) (by rw [hp]; simp) rfl (by rw [hp]; simp) (fun _ => by rw [atm_still hev]; simp [dfW, hp]) (by simp) (by simp [saidW])
  case mt1 =>
    obtain ⟨rfl, rfl⟩ := hst
    exact plain (by simp [owns, hp]) (by simp [passd, hp]) (by rw [hp]; simp) (by rw [hp]; simp) (by rw [hp]; simp) (by rw [hp]; simp) rfl (by rw [hp]; simp) (fun _ => by subst hev; simp [dfW, hp, deafBehind]) (by simp) (by simp [saidW])
  case ms1 =>
    obtain ⟨_, rfl, rfl | rfl⟩ := hst
    · exact plain (by simp [owns, hp]) (by simp [passd, hp]) (by rw [hp]; simp) (by rw [hp]; simp) (by rw [hp]; simp) (by rw [hp]; simp) rfl (by rw [hp]; simp) (fun _ => by subst hev; rw [deaf_sem]; simp [dfW, hp]) (by simp) (by simp [saidW])
    · exact plain (by simp [owns, hp]) (by simp [passd, hp]) (by rw [hp]; simp) (by rw [hp]; simp) (by rw [hp]; simp) (by rw [hp]; simp) rfl (by rw [hp]; simp) (fun _ => by subst hev; rw [deaf_sem]; simp [dfW, hp]) (by simp) (by simp [saidW])
  case mt2 =>
    obtain ⟨rfl | rfl, rfl⟩ := hst
    · exact plain (by simp [owns, hp]) (by simp [passd, hp]) (by rw [hp]; simp) (by rw [hp]; simp) (by rw [hp]; simp) (by rw [hp]; simp) rfl (by rw [hp]; simp) (fun _ => by subst hev; simp [dfW, hp, deafBehind]) (by simp) (by simp [saidW])
    · exact plain (by simp [owns, hp]) (by simp [passd, hp]) (by rw [hp]; simp) (by rw [hp]; simp) (by rw [hp]; simp) (by rw [hp]; simp) rfl (by rw [hp]; simp) (fun _ => by subst hev; simp [dfW, hp, deafBehind]) (by simp) (by simp [saidW])
  case mr2 =>
    obtain ⟨⟨_, rfl⟩ | ⟨_, rfl⟩, rfl⟩ := hst
    · exact plain (by simp [owns, hp]) (by simp [passd, hp]) (by rw [hp]; simp) (by rw [hp]; simp) (by rw [hp]; simp) (by rw [hp]; simp) rfl (by rw [hp]; simp) (fun _ => by subst hev; simp [dfW, hp, deafBehind]) (by simp) (by simp [saidW])
    · exact plain (by rw [owns_head]; simp [owns, hp]) (by rw [passd_head]; simp [passd, hp]) (by rw [hp]; simp) (by rw [hp]; simp) (by rw [hp]; simp) (by rw [hp]; simp) (bx_head _) (by rw [hp]; simp) (fun _ => by subst hev; rw [dfW_head]; simp [dfW, hp, deafBehind]) (fun e => by rcases head_pc _ with x | x <;> rw [x] at e <;> cases e) (by rw [saidW_head]; simp)
  case ma1 =>
    obtain ⟨rfl, rfl⟩ := hst
    exact plain (by simp [owns, hp]) (by simp [passd, hp]) (by rw [hp]; simp) (by rw [hp]; simp) (by rw [hp]; simp) (by rw [hp]; simp) rfl (by rw [hp]; simp) (fun _ => by rw [atm_still hev]; simp [dfW, hp]) (by simp) (by simp [saidW])
  case mr3 =>
    obtain ⟨rfl, rfl⟩ := hst
    exact plain (by rw [owns_head]; simp [owns, hp]) (by rw [passd_head]; simp [passd, hp]) (by rw [hp]; simp) (by rw [hp]; simp) (by rw [hp]; simp) (by rw [hp]; simp) (bx_head _) (by rw [hp]; simp) (fun _ => by subst hev; rw [dfW_head]; simp [dfW, hp, deafBehind]) (fun e => by rcases head_pc _ with x | x <;> rw [x] at e <;> cases e) (by rw [saidW_head]; simp)
  case me =>
    obtain ⟨rfl, rfl⟩ := hst
    exact plain (by simp [owns, hp]) (by simp [passd, hp]) (by rw [hp]; simp) (by rw [hp]; simp) (by rw [hp]; simp) (by rw [hp]; simp) rfl (by rw [hp]; simp) (fun _ => by subst hev; simp [dfW, hp, deafBehind, mkE]) (by simp) (by simp [saidW])
  case lk1 =>
    obtain ⟨rfl, rfl⟩ := hst
    exact plain (by simp [owns, hp]) (by simp [passd, hp]) (by rw [hp]; simp) (by rw [hp]; simp) (by rw [hp]; simp) (by rw [hp]; simp) rfl (by rw [hp]; simp) (fun _ => by subst hev; simp [dfW, hp, deafBehind]) (by simp) (by simp [saidW])
  case ia1 =>
    obtain ⟨rfl, rfl⟩ := hst
    exact plain (by simp [owns, hp]) (by simp [passd, hp]) (by rw [hp]; simp) (by rw [hp]; simp) (by rw [hp]; simp) (by rw [hp]; simp) rfl (by rw [hp]; simp) (fun _ => by subst hev; simp [dfW, hp, deafBehind]) (by simp) (by simp [saidW])
  case ibr =>
    obtain ⟨rfl, rfl⟩ := hst
    exact plain (by simp [owns, hp]) (by simp [passd, hp]) (by rw [hp]; simp) (by rw [hp]; simp) (by rw [hp]; simp) (by rw [hp]; simp) rfl (by rw [hp]; simp) (fun _ => by subst hev; simp [dfW, hp, deafBehind]) (by simp) (by simp [saidW])
  case lk2 =>
    have hb : (gs.th k).b = false := hO'.1
    obtain ⟨⟨_, rfl⟩ | ⟨_, rfl⟩, rfl⟩ := hst
    · exact plain (by simp [owns, hp, hb]) (by simp [passd, hp, hb]) (by rw [hp]; simp) (by rw [hp]; simp) (by rw [hp]; simp) (by rw [hp]; simp) rfl (by rw [hp]; simp) (fun _ => by rw [deaf_still (fun e he => by obtain ⟨x, rfl⟩ := hev e he; simp)]; simp [dfW, hp]) (by simp [hb]) (by simp [saidW, hb])
    · exact plain (by simp [owns, hp]) (by simp [passd, hp]) (by rw [hp]; simp) (by rw [hp]; simp) (by rw [hp]; simp) (by rw [hp]; simp) rfl (by rw [hp]; simp) (fun _ => by rw [deaf_still (fun e he => by obtain ⟨x, rfl⟩ := hev e he; simp)]; simp [dfW, hp]) (by simp) (by simp [saidW])
  case dr =>
    obtain ⟨rfl | rfl, rfl⟩ := hst
    · exact plain (by simp [owns, hp]) (by simp [passd, hp]) (by rw [hp]; simp) (by rw [hp]; simp) (by rw [hp]; simp) (by rw [hp]; simp) rfl (by rw [hp]; simp) (fun _ => by subst hev; simp [dfW, hp, deafBehind]) (by simp) (by simp [saidW])
    · exact plain (by simp [owns, hp]) (by simp [passd, hp]) (by rw [hp]; simp) (by rw [hp]; simp) (by rw [hp]; simp) (by rw [hp]; simp) rfl (by rw [hp]; simp) (fun _ => by subst hev; simp [dfW, hp, deafBehind]) (by simp) (by simp [saidW])
  case ian =>
    obtain ⟨rfl, rfl⟩ := hst
    exact plain (by simp [owns, hp]) (by simp [passd, hp]) (by rw [hp]; simp) (by rw [hp]; simp) (by rw [hp]; simp) (by rw [hp]; simp) rfl (by rw [hp]; simp) (fun _ => by rw [atm_still hev]; simp [dfW, hp]) (by simp) (by simp [saidW])
  case iba =>
    obtain ⟨rfl, rfl⟩ := hst
    exact plain (by simp [owns, hp]) (by simp [passd, hp]) (by rw [hp]; simp) (by rw [hp]; simp) (by rw [hp]; simp) (by rw [hp]; simp) rfl (by rw [hp]; simp) (fun _ => by rw [atm_still hev]; simp [dfW, hp]) (by simp) (by simp [saidW])
  case in2 =>
    obtain ⟨rfl, rfl⟩ := hst
    have hb : (gs.th k).b = false := hO'.1
    exact plain (by simp [owns, hp, hb]) (by simp [passd, hp, hb]) (by rw [hp]; simp) (by rw [hp]; simp) (by rw [hp]; simp) (by rw [hp]; simp) rfl (by rw [hp]; simp) (fun _ => by rw [deaf_still (fun e he => by obtain ⟨x, rfl⟩ := hev e he; simp)]; simp [dfW, hp]) (by simp [hb]) (by simp [saidW, hb])
  case ud =>
    obtain ⟨rfl, rfl⟩ := hst
    exact plain (by simp [owns, hp]) (by simp [passd, hp]) (by rw [hp]; simp) (by rw [hp]; simp) (by rw [hp]; simp) (by rw [hp]; simp) rfl (by rw [hp]; simp) (fun _ => by subst hev; simp [dfW, hp, deafBehind, mkE]) (by simp) (by simp [saidW])
  case u0 =>
    obtain ⟨rfl, ⟨_, rfl⟩ | ⟨_, _, rfl⟩ | ⟨_, _, _, rfl⟩⟩ := hst
    · exact plain (by simp [owns, hp]) (by simp [passd, hp]) (by rw [hp]; simp) (by rw [hp]; simp) (by rw [hp]; simp) (by rw [hp]; simp) rfl (by rw [hp]; simp) (fun _ => by rw [atm_still hev]; simp [dfW, hp]) (by simp) (by simp [saidW])
    · exact plain (by simp [owns, hp]) (by simp [passd, hp]) (by rw [hp]; simp) (by rw [hp]; simp) (by rw [hp]; simp) (by rw [hp]; simp) rfl (by rw [hp]; simp) (fun _ => by rw [atm_still hev]; simp [dfW, hp]) (by simp) (by simp [saidW])
    · exact plain (by simp [owns, hp]) (by simp [passd, hp]) (by rw [hp]; simp) (by rw [hp]; simp) (by rw [hp]; simp) (by rw [hp]; simp) rfl (by rw [hp]; simp) (fun _ => by rw [atm_still hev]; simp [dfW, hp]) (by simp) (by simp [saidW])
  case uc =>
    rcases hst with ⟨_, rfl, rfl⟩ | ⟨_, rfl, rfl⟩
    · exact plain (by simp [owns, hp]) (by simp [passd, hp]) (by rw [hp]; simp) (by rw [hp]; simp) (by rw [hp]; simp) (by rw [hp]; simp) rfl (by rw [hp]; simp) (fun _ => by rw [atm_still hev]; simp [dfW, hp]) (by simp) (by simp [saidW])
    · exact plain (by simp [owns, hp]) (by simp [passd, hp]) (by rw [hp]; simp) (by rw [hp]; simp) (by rw [hp]; simp) (by rw [hp]; simp) rfl (by rw [hp]; simp) (fun _ => by rw [atm_still hev]; simp [dfW, hp]) (by simp) (by simp [saidW])
  case ux =>
    obtain ⟨⟨_, rfl⟩ | ⟨_, _, _, _, rfl⟩, rfl⟩ := hst
    · exact plain (by simp [owns, hp]) (by simp [passd, hp]) (by rw [hp]; simp) (by rw [hp]; simp) (by rw [hp]; simp) (by rw [hp]; simp) rfl (by rw [hp]; simp) (fun _ => by subst hev; simp [dfW, hp, deafBehind]) (by simp) (by simp [saidW])
    · exact plain (by simp [owns, hp]) (by simp [passd, hp]) (by rw [hp]; simp) (by rw [hp]; simp) (by rw [hp]; simp) (by rw [hp]; simp) rfl (by rw [hp]; simp) (fun _ => by subst hev; simp [dfW, hp, deafBehind]) (by simp) (by simp [saidW])
  case us =>
    obtain ⟨rfl, rfl⟩ := hst
    exact plain (by simp [owns, hp]) (by simp [passd, hp]) (by rw [hp]; simp) (by rw [hp]; simp) (by rw [hp]; simp) (by rw [hp]; simp) rfl (by rw [hp]; simp) (fun _ => by subst hev; rw [deaf_sem]; simp [dfW, hp]) (by simp) (by simp [saidW])
  case ue =>
    obtain ⟨hst, rfl⟩ := hst
    rcases (show (gs.th k).b = false ∨ (gs.th k).b = true by cases (gs.th k).b <;> simp) with hb | hb <;> simp only [hb, if_true, if_false, Bool.false_eq_true] at hst <;> subst hst
    · exact plain (by simp [owns, hp]) (by simp [passd, hp]) (by rw [hp]; simp) (by rw [hp]; simp) (by rw [hp]; simp) (by rw [hp]; simp) rfl (by rw [hp]; simp) (fun _ => by subst hev; simp [dfW, hp, deafBehind, mkE]) (by simp) (by simp [saidW])
    · exact plain (by simp [owns, hp]) (by simp [passd, hp]) (by rw [hp]; simp) (by rw [hp]; simp) (by rw [hp]; simp) (by rw [hp]; simp) rfl (by rw [hp]; simp) (fun _ => by subst hev; simp [dfW, hp, deafBehind, mkE]) (by simp) (by simp [saidW])
  case wf =>
    obtain ⟨rfl, rfl⟩ := hst
    by_cases e : (gs.th k).i + c.W < c.n
    · exact plain (by simp [owns, hp, e]) (by simp [passd, hp, e]) (by rw [hp]; simp) (by rw [hp]; simp) (by rw [hp]; simp) (by rw [hp]; simp) rfl (by rw [hp]; simp) (fun _ => by rw [deaf_still (fun e he => by rw [hev e he]; simp)]; simp [dfW, hp, e]) (by simp [e]) (by simp [saidW, e])
    · exact plain (by simp [owns, hp, e]) (by simp [passd, hp, e]) (by rw [hp]; simp) (by rw [hp]; simp) (by rw [hp]; simp) (by rw [hp]; simp) rfl (by rw [hp]; simp) (fun _ => by rw [deaf_still (fun e he => by rw [hev e he]; simp)]; simp [dfW, hp, e]) (by simp [e]) (by simp [saidW, e])
  case wk =>
    obtain ⟨rfl, rfl⟩ := hst
    exact plain (by simp [owns, hp]) (by simp [passd, hp]) (by rw [hp]; simp) (by rw [hp]; simp) (by rw [hp]; simp) (by rw [hp]; simp) rfl (by rw [hp]; simp) (fun _ => by subst hev; simp [dfW, hp, deafBehind, mkE]) (by simp) (fun _ => ⟨by simp [saidW, hp], fun i e he => .inl (by subst hev; have := one_mem (Array.mem_of_getElem? he); rw [this]; rfl)⟩)
  case d1 =>
    obtain ⟨rfl, rfl⟩ := hst
    by_cases e0 : gs.s.wv = 1 ∧ gs.s.ww = 1
    · exact plain (by simp [owns, hp, e0]) (by simp [passd, hp, e0]) (by rw [hp]; simp) (by rw [hp]; simp) (by rw [hp]; simp) (by rw [hp]; simp) rfl (by rw [hp]; simp) (fun _ => by rw [atm_still hev]; simp [dfW, hp, e0]) (by simp [e0]) (fun _ => ⟨by simp [saidW, hp], fun i e he => .inr ⟨⟨stA c.Wg, by obtain ⟨x, hx⟩ := hev e (Array.mem_of_getElem? he); exact ⟨x, hx, rfl⟩⟩, by rw [atm_part hev]; simp [dfW, hp]⟩⟩)
    · exact plain (by simp [owns, hp, e0]) (by simp [passd, hp, e0]) (by rw [hp]; simp) (by rw [hp]; simp) (by rw [hp]; simp) (by rw [hp]; simp) rfl (by rw [hp]; simp) (by simp [e0]) (fun _ => by rw [atm_still hev]; simp [dfW, hp]) (fun _ => ⟨by simp [saidW, hp], fun i e he => .inr ⟨⟨stA c.Wg, by obtain ⟨x, hx⟩ := hev e (Array.mem_of_getElem? he); exact ⟨x, hx, rfl⟩⟩, by rw [atm_part hev]; simp [dfW, hp]⟩⟩)
  case d2 =>
    obtain ⟨rfl, rfl⟩ := hst
    exact plain (by simp [owns, hp]) (by simp [passd, hp]) (by rw [hp]; simp) (by rw [hp]; simp) (by rw [hp]; simp) (by rw [hp]; simp) rfl (by rw [hp]; simp) (fun _ => by rw [atm_still hev]; simp [dfW, hp]) (by simp) (fun _ => ⟨by simp [saidW, hp], fun i e he => .inr ⟨⟨stA c.Wg, by obtain ⟨x, hx⟩ := hev e (Array.mem_of_getElem? he); exact ⟨x, hx, rfl⟩⟩, by rw [atm_part hev]; simp [dfW, hp]⟩⟩)
  case d3 =>
    obtain ⟨rfl, rfl⟩ := hst
    exact plain (by simp [owns, hp]) (by simp [passd, hp]) (by rw [hp]; simp) (by rw [hp]; simp) (by rw [hp]; simp) (by rw [hp]; simp) rfl (by rw [hp]; simp) (fun _ => by rw [atm_still hev]; simp [dfW, hp]) (by simp) (fun _ => ⟨by simp [saidW, hp], fun i e he => .inr ⟨⟨stA c.Wg, by obtain ⟨x, hx⟩ := hev e (Array.mem_of_getElem? he); exact ⟨x, hx, rfl⟩⟩, by rw [atm_part hev]; simp [dfW, hp]⟩⟩)
  case d4 =>
    obtain ⟨rfl, rfl⟩ := hst
    refine plain (by simp [owns, hp]) (by simp [passd, hp]) (by rw [hp]; simp) (by rw [hp]; simp) (by rw [hp]; simp) (by rw [hp]; simp) rfl (by rw [hp]; simp) (by simp) (fun _ => by subst hev; rw [deaf_sem]; simp [dfW, hp]) (fun _ => ⟨by simp [saidW, hp], fun i e he => ?_⟩)
    subst hev
    have hd : dfW (gs.th k) = 1 := by simp [dfW, hp]
    rw [hd]
    exact sem_self i e he
end
end Go.Proofs.Ytnlopklbbajlbaa.Sw
