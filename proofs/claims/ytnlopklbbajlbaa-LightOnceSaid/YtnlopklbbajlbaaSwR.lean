/- LightOnce: what holds of the trace, through quiet steps, leavers' steps, the starter's steps, a go statement. -/
import Derived.Test.YtnlopklbbajlbaaSwQ
namespace Go.Proofs.Ytnlopklbbajlbaa.Sw
open Go Go.Conc Go.ConcN
open Go.ConcR (stA smA DC0)

section
variable {c : TC} {gs : GS} {own pdo own' pdo' : Option Nat} {Bd Bd' k B : Nat} {t : Trace} {T T' X : Wk} {s s' : Sh} {es : Array Event} {fn : FuncId} {pos : String} {nm : Nat → ByteArray} {S0 : List ByteArray}

theorem said_bare {T : Wk} (h : saidW T = true) : bare T.pc = true := by
  unfold saidW at h
  cases hp : T.pc <;> simp only [hp] at h <;> first | rfl | cases h

/-- A quiet step. -/
theorem TI.quiet (h : TI c gs own pdo Bd t) (I : Inv c.W c.n B nm S0 gs) (S : Sep c gs.t0.j (bxOf c gs)) (hk : k < gs.t0.j) (hc : 0 < (gs.th k).c) (hq : bare (gs.th k).pc = false) (hev : EvW c (gs.th k) gs.s es)
    (hlow : c.Low ≤ Bd) (hbx : (gs.th k).bx < Bd) (hmp : 1 ≤ gs.s.st → gs.s.mp < Bd) (hB : Bd ≤ Bd') (c' : Nat) :
    TI c ⟨gs.t0, upd gs.th k { gs.th k with c := c' }, gs.s⟩ own pdo Bd' (t ++ MemOp.ofEvents (idW c k) fn pos es) := by
  have hok := evW_ok (es := es) h hk (I.onc.loc k hk) (I.cont.item k hk) hlow hbx hmp I.onc.yes hev
  refine h.plain S hk hok hB rfl id rfl rfl rfl (fun e => by rw [e] at hq; cases hq) (fun _ => ?_) (fun hs => ?_)
  · unfold EvW at hev
    rw [if_pos hc] at hev
    rw [deaf_still fun e he => by obtain ⟨a, rfl, _⟩ := hev e he; simp]
    rfl
  · have := said_bare hs
    rw [show ({ gs.th k with c := c' } : Wk).pc = (gs.th k).pc from rfl, hq] at this
    cases this

/-- One that is only leaving: an old one, or a worker that has said its last word. -/
theorem TI.mute (h : TI c gs own pdo Bd t) {i : Nat} (h0 : i ≠ 0) (hi : i ≤ c.e + gs.t0.j) (hq : ∀ k, k < gs.t0.j → i = idW c k → (gs.th k).pc = .quit) (hm : ∀ e ∈ es, Event.mute e = true) :
    TI c gs own pdo Bd (t ++ MemOp.ofEvents i fn pos es) := by
  have hop : ∀ op ∈ MemOp.ofEvents i fn pos es, op.g = i ∧ NoRel c op.act ∧ op.act.touch? = none := fun op hop => by
    obtain ⟨e, he, rfl⟩ := Go.Conc.mem_ofEvents hop
    refine ⟨rfl, ?_, touch_mute (hm e he)⟩
    have := hm e he
    obtain ⟨l, x, y⟩ := e
    cases l with
    | mark m => cases m <;> simp [Event.mute] at this <;> simp [NoRel, MemAct.ofEvent]
    | _ => simp [Event.mute] at this
  refine ⟨h.tt.still hi hop, h.ow1, h.ow2, fun k hk hp pd hpd => (h.pass k hk hp pd hpd).app _, h.pd0, fun k hk hne => ?_, ?_, fun k hk hs => ?_, fun op hop' => ?_, fun i' hi' => ?_⟩
  · rw [Deaf_other t (g' := i) (fun e => hne (hq k hk e)) _ ofE_g]
    exact h.deaf k hk hne
  · rw [Deaf_other t (g' := i) h0 _ ofE_g]
    exact h.deaf0
  · obtain ⟨r, hr⟩ := h.rel k hk hs
    exact ⟨r, hr.still fun op ho => (hop op ho).2.2⟩
  · rcases Array.mem_append.1 hop' with h1 | h1
    · exact h.low op h1
    · obtain ⟨e, he, rfl⟩ := Go.Conc.mem_ofEvents h1
      exact low_mute (hm e he) Bd
  · rw [Deaf_other t (g' := i) (by omega) _ ofE_g]
    exact h.above i' hi'

theorem bxOf_s {t0 : St} {i : Nat} (hi : i ≠ 0) : bxOf c ⟨t0, gs.th, s'⟩ i = bxOf c gs i := by unfold bxOf; rw [if_neg hi, if_neg hi]

/-- Put together, for the starter. -/
theorem TI.build0 (h : TI c gs own pdo Bd t) {t' : St} (hj : t'.j = gs.t0.j) (hdn : s'.done = gs.s.done)
    (tt : TT c gs.t0.j (moOf s') own pdo s'.done (bxOf c ⟨t', gs.th, s'⟩) (t ++ MemOp.ofEvents 0 fn pos es)) (df : deafBehind (dfS gs.t0) es = dfS t') (low : ∀ e ∈ es, (MemAct.ofEvent e).low Bd') (hB : Bd ≤ Bd') :
    TI c ⟨t', gs.th, s'⟩ own pdo Bd' (t ++ MemOp.ofEvents 0 fn pos es) := by
  refine ⟨by rw [show (GS.mk t' gs.th s').t0.j = gs.t0.j from hj]; exact tt, fun k hk => h.ow1 k (by rw [← hj]; exact hk), fun i hi => ?_, fun k hk hp pd hpd => (h.pass k (by rw [← hj]; exact hk) hp pd hpd).app _, fun hd => h.pd0 (by rw [← hdn]; exact hd), fun k hk hne => ?_, ?_, fun k hk hs => ?_, fun op hop => ?_, fun i hi => ?_⟩
  · obtain ⟨k, hk, e⟩ := h.ow2 i hi
    exact ⟨k, by rw [show (GS.mk t' gs.th s').t0.j = gs.t0.j from hj]; exact hk, e⟩
  · rw [Deaf_other t (g' := 0) (Ne.symm idW_ne) _ ofE_g]
    exact h.deaf k (by rw [← hj]; exact hk) hne
  · rw [Deaf_own, h.deaf0]
    exact df
  · obtain ⟨r, hr⟩ := h.rel k (by rw [← hj]; exact hk) hs
    exact ⟨r, hr.other fun op hop => by rw [ofE_g op hop]; exact Ne.symm idW_ne⟩
  · rcases Array.mem_append.1 hop with h1 | h1
    · exact MemAct.low_mono hB (h.low op h1)
    · obtain ⟨e, he, rfl⟩ := Go.Conc.mem_ofEvents h1
      exact low e he
  · rw [Deaf_other t (g' := 0) (by omega) _ ofE_g]
    exact h.above i (by rw [← hj]; exact hi)

theorem evO_said {j : Nat} {mo : Option Nat} {bx : Nat → Option Nat} {a : Addr} (m : Addr → Mark) (hm : m = .read ∨ m = .write) (h : AtL c (.cell a)) (hb : a.block < Bd) : EvO c j mo own pdo bx 0 Bd (mkE (m a)) := by
  rcases hm with rfl | rfl
  · refine ⟨fun fn pos => ⟨rfl, by simp [NoRel, mkE, MemAct.ofEvent], fun y hy => ?_⟩, hb⟩
    simp only [mkE, MemAct.ofEvent, MemAct.touch?, Option.some.injEq] at hy
    subst hy
    exact .inr (.inl ⟨h, rfl, rfl⟩)
  · refine ⟨fun fn pos => ⟨rfl, by simp [NoRel, mkE, MemAct.ofEvent], fun y hy => ?_⟩, hb⟩
    simp only [mkE, MemAct.ofEvent, MemAct.touch?, Option.some.injEq] at hy
    subst hy
    exact .inr (.inl ⟨h, rfl, rfl⟩)

theorem evS_ok (hB : c.Low ≤ Bd) (hbx : ∀ b, bxS gs.t0 = some b → b < Bd) (he : EvS c gs.t0 es) : ∀ e ∈ es, EvO c gs.t0.j (moOf gs.s) own pdo (bxOf c gs) 0 Bd e := by
  have lw := c.lw
  have lW : ∀ off, (⟨c.Wg, off, none⟩ : Addr).block < Bd := fun _ => by show c.Wg < Bd; omega
  have none_of : ∀ {P : Event → Prop}, es = #[] → ∀ e ∈ es, P e := fun e0 e h1 => by rw [e0] at h1; simp at h1
  unfold EvS at he
  unfold bxS at hbx
  cases hp : gs.t0.pc <;> simp only [hp] at he hbx
  case so =>
    intro e h1
    obtain ⟨a, rfl, ha⟩ := he e h1
    exact evO_box _ (b := gs.t0.bx) (by simp [bxOf, bxS, hp]) ha (hbx _ rfl)
  case sd => subst he; intro e h1; rw [one_mem h1]; exact evO_mark rfl (by simp [NoRel]) trivial
  case kd => subst he; intro e h1; rw [one_mem h1]; exact evO_mark rfl (by simp [NoRel]) trivial
  case se => subst he; intro e h1; rw [one_mem h1]; exact evO_mark rfl (by simp [NoRel]) trivial
  case ke => subst he; intro e h1; rw [one_mem h1]; exact evO_mark rfl (by simp [NoRel]) trivial
  case sa => exact evO_atm he atL_st st_ne_dn (lW _)
  case w1 => exact evO_atm he atL_st st_ne_dn (lW _)
  case w2 => exact evO_atm he atL_st st_ne_dn (lW _)
  case w4 => exact evO_atm he atL_st st_ne_dn (lW _)
  case sr => subst he; intro e h1; rw [one_mem h1]; exact evO_said .read (.inl rfl) atL_sm (lW _)
  case wx => subst he; intro e h1; rw [one_mem h1]; exact evO_said .write (.inr rfl) atL_sm (lW _)
  case w3 => subst he; exact evO_sem atL_sm sm_ne_dn (lW _)
  case aq => subst he; intro e h1; rw [one_mem h1]; exact evO_mark rfl (by simp [NoRel]) (lW _)
  all_goals exact none_of he

/-- ████ THE STARTER's STEP (not the go statement). ████ -/
theorem TI.starter {W : Nat} (h : TI c gs own pdo Bd t) (S : Sep c gs.t0.j (bxOf c gs)) {t' : St} (hst : StepS W gs.t0 gs.s t' s') (hp : gs.t0.pc ≠ .sg) (hB : c.Low ≤ Bd) (hbx : ∀ b, bxS gs.t0 = some b → b < Bd) (he : EvS c gs.t0 es)
    (hsz : if gs.t0.pc = .sb then Bd' = Bd + 1 ∧ t'.bx = Bd else Bd' = Bd) : TI c ⟨t', gs.th, s'⟩ own pdo Bd' (t ++ MemOp.ofEvents 0 fn pos es) := by
  have hok := evS_ok (own := own) (pdo := pdo) hB hbx he
  have htt := h.tt.app (u := MemOp.ofEvents 0 fn pos es) S (.inl rfl) (okT_of hok)
  have plain : t'.j = gs.t0.j → s'.done = gs.s.done → s'.st = gs.s.st → s'.mp = gs.s.mp → bxS t' = bxS gs.t0 → gs.t0.pc ≠ .sb → deafBehind (dfS gs.t0) es = dfS t' → TI c ⟨t', gs.th, s'⟩ own pdo Bd' (t ++ MemOp.ofEvents 0 fn pos es) := by
    intro h1 h2 h3 h4 h5 h6 h7
    rw [if_neg h6] at hsz
    subst hsz
    refine h.build0 h1 h2 ?_ h7 (fun e he => (hok e he).2) (Nat.le_refl _)
    rw [moOf_of h3 h4, h2]
    refine htt.boxes fun g _ => ?_
    by_cases h0 : g = 0
    · subst h0; unfold bxOf; simp only [if_true]; exact h5
    · exact bxOf_s h0
  unfold EvS at he
  cases hq : gs.t0.pc <;> simp only [StepS, hq] at hst he
  case sb =>
    subst he
    obtain ⟨⟨z, rfl⟩, rfl⟩ := hst
    rw [if_pos hq] at hsz
    obtain ⟨rfl, hz⟩ := hsz
    have hz' : z = Bd := hz
    subst hz'
    refine h.build0 rfl rfl ?_ (by simp [dfS, hq, deafBehind]) (fun e he => MemAct.low_mono (Nat.le_succ _) (hok e he).2) (by omega)
    have := h.tt.rebox (g := 0) (o := some z) fun b hb i x hx => by cases hb; exact (h.fresh hx).1
    rw [ofEvents_nil]
    refine this.boxes fun g _ => ?_
    by_cases h0 : g = 0
    · subst h0; rw [upd_same]; simp [bxOf, bxS]
    · rw [upd_ne _ _ h0]; exact bxOf_s h0
  case so => obtain ⟨rfl, rfl⟩ := hst; exact plain rfl rfl rfl rfl (by simp [bxS, hq]) (by rw [hq]; simp) (by rw [deaf_still fun e h1 => by obtain ⟨a, rfl, _⟩ := he e h1; simp]; simp [dfS, hq])
  case sd => subst he; obtain ⟨rfl, rfl⟩ := hst; exact plain rfl rfl rfl rfl (by simp [bxS, hq]) (by rw [hq]; simp) (by simp [dfS, hq, deafBehind, mkE])
  case sa => obtain ⟨rfl, rfl⟩ := hst; exact plain rfl rfl rfl rfl (by by_cases e : gs.s.wv = 0 <;> simp [bxS, hq, e]) (by rw [hq]; simp) (by rw [atm_still he]; by_cases e : gs.s.wv = 0 <;> simp [dfS, hq, e])
  case sr => subst he; obtain ⟨rfl, rfl⟩ := hst; exact plain rfl rfl rfl rfl (by simp [bxS, hq]) (by rw [hq]; simp) (by simp [dfS, hq, deafBehind, mkE])
  case se => subst he; obtain ⟨rfl, rfl⟩ := hst; exact plain rfl rfl rfl rfl (by simp [bxS, hq]) (by rw [hq]; simp) (by simp [dfS, hq, deafBehind, mkE])
  case sg => exact absurd hq hp
  case kd => subst he; obtain ⟨rfl, rfl⟩ := hst; exact plain rfl rfl rfl rfl (by simp [bxS, hq]) (by rw [hq]; simp) (by simp [dfS, hq, deafBehind, mkE])
  case w1 =>
    obtain ⟨⟨_, rfl⟩ | ⟨_, rfl⟩, rfl⟩ := hst
    · exact plain rfl rfl rfl rfl (by simp [bxS, hq]) (by rw [hq]; simp) (by rw [atm_still he]; simp [dfS, hq])
    · exact plain rfl rfl rfl rfl (by simp [bxS, hq]) (by rw [hq]; simp) (by rw [atm_still he]; simp [dfS, hq])
  case w2 =>
    rcases hst with ⟨_, rfl, rfl⟩ | ⟨_, rfl, rfl⟩
    · exact plain rfl rfl rfl rfl (by simp [bxS, hq]) (by rw [hq]; simp) (by rw [atm_still he]; simp [dfS, hq])
    · exact plain rfl rfl rfl rfl (by simp [bxS, hq]) (by rw [hq]; simp) (by rw [atm_still he]; simp [dfS, hq])
  case wx => subst he; obtain ⟨rfl, rfl⟩ := hst; exact plain rfl rfl rfl rfl (by simp [bxS, hq]) (by rw [hq]; simp) (by simp [dfS, hq, deafBehind, mkE])
  case w3 => subst he; obtain ⟨_, rfl, rfl⟩ := hst; exact plain rfl rfl rfl rfl (by simp [bxS, hq]) (by rw [hq]; simp) (by rw [deaf_sem]; simp [dfS, hq])
  case w4 => obtain ⟨rfl, rfl⟩ := hst; exact plain rfl rfl rfl rfl (by simp [bxS, hq]) (by rw [hq]; simp) (by rw [atm_still he]; simp [dfS, hq])
  case ke => subst he; obtain ⟨rfl, rfl⟩ := hst; exact plain rfl rfl rfl rfl (by simp [bxS, hq]) (by rw [hq]; simp) (by simp [dfS, hq, deafBehind, mkE])
  case aq => subst he; obtain ⟨rfl, rfl⟩ := hst; exact plain rfl rfl rfl rfl (by simp [bxS, hq]) (by rw [hq]; simp) (by simp [dfS, hq, deafBehind, mkE])

/-- ████ THE go STATEMENT. ████ -/
theorem TI.spawn (h : TI c gs own pdo Bd t) (hp : gs.t0.pc = .sg) (hn : New c.n gs.t0.j T) (hb : T.bx = gs.t0.bx) {x y : MemOp} (hx : x.g = 0 ∧ x.act = .go (c.e + gs.t0.j + 1)) (hy : y.g = c.e + gs.t0.j + 1 ∧ y.act = .start) {p : Sc} (hpp : p = .sb ∨ p = .kd) :
    TI c ⟨{ gs.t0 with pc := p, j := gs.t0.j + 1 }, upd gs.th gs.t0.j T, gs.s⟩ own pdo Bd (t ++ #[x, y]) := by
  have hid : idW c gs.t0.j = c.e + gs.t0.j + 1 := by unfold idW; omega
  have hd0 : Deaf t 0 = 0 := by rw [h.deaf0]; simp [dfS, hp]
  have hT : owns T = false ∧ passd T = false ∧ saidW T = false ∧ dfW T = 0 := by rcases hn.pc with ⟨_, e⟩ | ⟨_, e⟩ <;> simp [owns, passd, saidW, dfW, e]
  have habs : Deaf t (idW c gs.t0.j) = 0 := h.above _ (by rw [hid]; omega)
  have lt : ∀ k, k < gs.t0.j + 1 → k ≠ gs.t0.j → k < gs.t0.j := fun k h1 h2 => by omega
  have hdf : ∀ g, g ≠ 0 ∨ True → Deaf (t ++ #[x, y]) g = Deaf t g := fun g _ => by
    have e : t ++ #[x, y] = (t ++ #[x]) ++ #[y] := by apply Array.ext'; simp
    rw [e, Deaf_push, Deaf_push]
    simp only [deafStep, hx.2, hy.2]
  have hng : ∀ op ∈ #[x, y], op.act.touch? = none := fun op hop => by
    have : op = x ∨ op = y := by simpa using hop
    rcases this with rfl | rfl
    · rw [hx.2]; rfl
    · rw [hy.2]; rfl
  refine ⟨(h.tt.fork hx hy hd0 (by rw [← hid]; exact habs)).boxes fun g hg => ?_, fun k hk => ?_, fun i hi => ?_, fun k hk hpa pd hpd => ?_, h.pd0, fun k hk hne => ?_, ?_, fun k hk hs => ?_, fun op hop => ?_, fun i hi => ?_⟩
  · by_cases h0 : g = 0
    · subst h0
      rw [upd_same]
      rcases hpp with rfl | rfl <;> simp [bxOf, bxS]
    · rw [upd_ne _ _ h0]
      by_cases e : g = c.e + gs.t0.j + 1
      · subst e
        rw [upd_same]
        have : bxOf c ⟨{ gs.t0 with pc := p, j := gs.t0.j + 1 }, upd gs.th gs.t0.j T, gs.s⟩ (idW c gs.t0.j) = some T.bx := by rw [bxOf_w]; simp only [upd_same]
        rw [hid] at this
        rw [this, hb]
        simp [bxOf, bxS, hp]
      · rw [upd_ne _ _ e]
        unfold bxOf
        rw [if_neg h0, if_neg h0]
        simp only
        rw [upd_ne _ _ (fun e' => e (by
          rcases hg with h1 | h1
          · exact absurd h1 h0
          · have := h1.1; omega))]
  · simp only at hk ⊢
    by_cases e : k = gs.t0.j
    · subst e
      rw [upd_same, hT.1]
      refine ⟨fun x => (by cases x), fun x => ?_⟩
      obtain ⟨k', hk', e⟩ := h.ow2 _ x
      have := idW_inj e
      omega
    · rw [upd_ne _ _ e]; exact h.ow1 k (lt k hk e)
  · obtain ⟨k, hk, e⟩ := h.ow2 i hi
    exact ⟨k, by simp only; omega, e⟩
  · simp only at hk hpa
    by_cases e : k = gs.t0.j
    · subst e; rw [upd_same, hT.2.1] at hpa; cases hpa
    · rw [upd_ne _ _ e] at hpa; exact (h.pass k (lt k hk e) hpa pd hpd).app _
  · simp only at hk hne ⊢
    rw [hdf _ (.inr trivial)]
    by_cases e : k = gs.t0.j
    · subst e; rw [upd_same, hT.2.2.2]; exact habs
    · rw [upd_ne _ _ e] at hne ⊢; exact h.deaf k (lt k hk e) hne
  · rw [hdf _ (.inr trivial), hd0]
    rcases hpp with rfl | rfl <;> simp [dfS]
  · simp only at hk hs
    by_cases e : k = gs.t0.j
    · subst e; rw [upd_same, hT.2.2.1] at hs; cases hs
    · rw [upd_ne _ _ e] at hs
      obtain ⟨r, hr⟩ := h.rel k (lt k hk e) hs
      exact ⟨r, hr.still hng⟩
  · rcases Array.mem_append.1 hop with h1 | h1
    · exact h.low op h1
    · have : op = x ∨ op = y := by simpa using h1
      rcases this with rfl | rfl
      · rw [hx.2]; trivial
      · rw [hy.2]; trivial
  · rw [hdf _ (.inr trivial)]
    exact h.above i (by simp only at hi; omega)
end
end Go.Proofs.Ytnlopklbbajlbaa.Sw
