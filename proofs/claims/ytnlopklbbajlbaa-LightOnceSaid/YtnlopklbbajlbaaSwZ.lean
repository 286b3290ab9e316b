/- LightOnce: the machine's steps while a phase runs (3): the starter's; ████ a phase runs to its end, on every tape ████. -/
import Derived.Test.YtnlopklbbajlbaaSwY
set_option linter.unusedSimpArgs false
set_option linter.unusedVariables false
namespace Go.Proofs.Ytnlopklbbajlbaa.Sw
open Go Go.Conc Go.ConcN
open Go.ConcR (stA smA DC0)

section
variable {P : Program} {tA tW tB : TypeId} {c : TC} {q : AP} {Anch : Sh → Goroutine → World → Prop}
variable {k : Nat} {g g' child : Goroutine} {w w' W0 : World} {gs : Array Goroutine} {G : GS} {own pdo : Option Nat} {kS φS : Nat} {kW φW qO : Nat → Nat} {t : Trace} {sl : Option (Nat × Nat)} {T : Wk} {s' : Sh} {es : Array Event}

variable (P tA tW tB c q Anch) in
/-- THE PHASE's END: all have done their work; the starter stands at its anchor; the others are leaving. -/
def PEnd (W0 : World) (m : Machine) (t : Trace) : Prop :=
  ∃ (gs : Array Goroutine) (a : Goroutine) (w : World) (sl : Option (Nat × Nat)) (s : Sh) (th : Nat → Wk) (qq : Nat → Nat),
    m = crowd gs w sl ∧ gs.size = c.e + 1 + c.W ∧ gs[0]? = some a ∧ Anch s a w ∧ Leavers P t gs qq ∧ Past (fun l => c.Shun l ∨ BxL c.Wg l) w.heap.size t ∧ ShAt tA tW tB c w s ∧
    Cont c.W c.n q.nm q.S0 th c.W s ∧ (∀ k, k < c.W → (th k).pc = .quit) ∧ Onc th c.W s ∧ MB th c.W s ∧ RK tA tW tB c none W0 w

/-- THE STARTER's STEP BETWEEN STOPS. -/
theorem stepIdleS (C : Ctx P tA tW tB c q Anch W0 gs w G own pdo kS kW φS φW qO t) (hg : gs[0]? = some g) {m' : Nat} (hφ : φS = MM c * (m' + 1) + 1)
    (hs : stepG P true g w = .go g' w #[]) (hgo : GoesS P tA tW tB c q Anch G.t0 kS m' g' w) :
    ∃ m₁ ops μ', runT P (crowd gs w sl) 0 = (.next m₁, ops) ∧ Lt2 μ' (rank c.W c.n G, Sum c G φS φW qO) ∧ MInv P tA tW tB c q Anch W0 μ' m₁ (t ++ ops) := by
  obtain ⟨φS', φW', o1, o2, o3, o4, o5⟩ := C.others (x := g) (x' := g') (w' := w) (s' := G.s) (t' := t) (i := 0) (fun _ => RK.refl _ _) (fun _ _ _ => RK.refl _ _) .inl (fun _ _ _ => .inl) (fun _ _ => rfl)
  refine ⟨_, _, (rank c.W c.n G, Sum c G (MM c * m' + 1) φW' qO), runT_crowd_go hg hs, Prod.Lex.right _ ?_, _, w, sl, G, own, pdo, kS, kW, MM c * m' + 1, φW', qO, rfl, ?_, rfl⟩
  · unfold Sum
    have h1 := sum_bound' (f := φW) (f' := φW') o2
    rw [hφ, Nat.mul_add]
    have h2 : MM c = c.e + c.W + 3 := rfl
    have h3 : G.t0.j ≤ c.W := C.inv.jW
    omega
  · rw [ofEvents_nil]
    exact ⟨by simp [C.size], C.inv, C.shat, C.dS, C.dW, ⟨g', getElem?_self hg, .inl ⟨m', rfl, hgo⟩⟩, fun a ha => o4 a ha idW_ne, fun i h1 h2 => o5 i h1 h2 (by omega), C.ti, C.qc, C.sep, C.bxw, C.bxs, C.nf, C.far⟩
/-- THE STARTER's STOP THAT WAITS. -/
theorem stepBlockS (C : Ctx P tA tW tB c q Anch W0 gs w G own pdo kS kW φS φW qO t) (hg : gs[0]? = some g) {m : Nat} (hφ : φS = MM c * m + 1) (hw : waitS G.t0 G.s)
    (hst : GoesS P tA tW tB c q Anch G.t0 kS 0 g w) (hs : stepG P true g w = .go { g with status := .blocked } w #[]) :
    ∃ m₁ ops μ', runT P (crowd gs w sl) 0 = (.next m₁, ops) ∧ Lt2 μ' (rank c.W c.n G, Sum c G φS φW qO) ∧ MInv P tA tW tB c q Anch W0 μ' m₁ (t ++ ops) := by
  have hlt : 0 < gs.size := (Array.getElem?_eq_some_iff.1 hg).1
  refine ⟨_, _, (rank c.W c.n G, Sum c G 0 φW qO), runT_crowd_go hg hs, Prod.Lex.right _ ?_, _, w, sl, G, own, pdo, kS, kW, 0, φW, qO, rfl, ?_, rfl⟩
  · unfold Sum
    omega
  · rw [ofEvents_nil, block_same]
    refine ⟨by simp [C.size], C.inv, C.shat, C.dS, C.dW, ?_, fun a ha => ?_, fun i h1 h2 => ?_, C.ti, C.qc, C.sep, C.bxw, C.bxs, C.nf, C.far⟩
    · rw [Array.getElem?_setIfInBounds_self_of_lt hlt]
      exact ⟨_, rfl, .inr ⟨rfl, hw, g, rfl, hst⟩⟩
    · rw [Array.getElem?_setIfInBounds_ne (Ne.symm idW_ne)]
      exact C.sitW a ha
    · rw [Array.getElem?_setIfInBounds_ne (by omega)]
      exact C.old i h1 h2

/-- What the starter's steps do to what is shared. -/
theorem stepS_rest {W : Nat} {t t' : St} {s s' : Sh} (h : StepS W t s t' s') (hp : t.pc ≠ .sg) : t'.j = t.j ∧ (∀ b, s'.mx b = s.mx b) ∧ s'.st = s.st ∧ s'.mp = s.mp ∧ s'.done = s.done ∧
    (bxS t' = bxS t ∨ (t.pc = .sb ∧ bxS t' = some t'.bx)) := by
  cases hq : t.pc <;> simp only [StepS, hq] at h
  case sb => obtain ⟨⟨z, rfl⟩, rfl⟩ := h; exact ⟨rfl, fun _ => rfl, rfl, rfl, rfl, .inr ⟨rfl, rfl⟩⟩
  case sa => obtain ⟨rfl, rfl⟩ := h; exact ⟨rfl, fun b => by cases b <;> rfl, rfl, rfl, rfl, .inl (by by_cases e : s.wv = 0 <;> simp [bxS, hq, e])⟩
  case sg => exact absurd hq hp
  case w1 => obtain ⟨⟨_, rfl⟩ | ⟨_, rfl⟩, rfl⟩ := h <;> exact ⟨rfl, fun _ => rfl, rfl, rfl, rfl, .inl (by simp [bxS, hq])⟩
  case w2 => rcases h with ⟨_, rfl, rfl⟩ | ⟨_, rfl, rfl⟩ <;> exact ⟨rfl, fun b => by cases b <;> rfl, rfl, rfl, rfl, .inl (by simp [bxS, hq])⟩
  case w3 => obtain ⟨_, rfl, rfl⟩ := h; exact ⟨rfl, fun b => by cases b <;> rfl, rfl, rfl, rfl, .inl (by simp [bxS, hq])⟩
  all_goals (obtain ⟨rfl, rfl⟩ := h; exact ⟨rfl, fun _ => rfl, rfl, rfl, rfl, .inl (by simp [bxS, hq])⟩)

theorem Inv.fitS (I : Inv c.W c.n q.B q.nm q.S0 G) (hqW : q.W = c.W) : FitS q G.t0 G.s :=
  ⟨cP G.th G.t0.j pre, cP G.th G.t0.j mid2, cP G.th G.t0.j mid4, by rw [hqW]; exact Nat.le_trans (cP_le _) I.jW, by rw [hqW]; exact I.grp⟩

theorem leavers_of (C : Ctx P tA tW tB c q Anch W0 gs w G own pdo kS kW φS φW qO t) (hj : G.t0.j = c.W) (hq : ∀ k, k < c.W → (G.th k).pc = .quit) {t' : Trace} (hd : ∀ i, i ≠ 0 → Deaf t' i = Deaf t i) {gs' : Array Goroutine} (hgs' : ∀ i, 0 < i → gs'[i]? = gs[i]?) (hsz : gs'.size = gs.size) :
    ∃ qq, Leavers P t' gs' qq := by
  have key : ∀ i, ∃ n, 0 < i → ∀ g, gs[i]? = some g → QuitsD P n (Deaf t' i) g := fun i => by
    by_cases h0 : 0 < i
    · by_cases he : i ≤ c.e
      · obtain ⟨g, h1, h2⟩ := C.old i h0 he
        exact ⟨qO i, fun _ g' h3 => by rw [h1] at h3; cases h3; rw [hd i (by omega)]; exact h2⟩
      · by_cases hk : i - (c.e + 1) < G.t0.j
        · have e : idW c (i - (c.e + 1)) = i := by unfold idW; omega
          obtain ⟨g, h1, h2⟩ := C.sitW _ hk
          rw [e] at h1 h2
          rcases h2 with ⟨h3, _⟩ | ⟨h3, _⟩ | ⟨_, n, _, h4⟩
          · exact absurd (hq _ (by omega)) h3
          · exact absurd (hq _ (by omega)) h3
          · exact ⟨n, fun _ g' h3 => by rw [h1] at h3; cases h3; rw [hd i (by omega)]; exact h4⟩
        · exact ⟨0, fun _ g' h3 => by
            have h4 := (Array.getElem?_eq_some_iff.1 h3).1
            have h5 := C.size
            omega⟩
    · exact ⟨0, fun h => absurd h h0⟩
  obtain ⟨qq, hqq⟩ := Classical.axiomOfChoice key
  refine ⟨qq, ⟨fun i g hi hg => hqq i hi g (by rw [← hgs' i hi]; exact hg), fun i hi => ?_⟩⟩
  have h2 := C.size
  rw [hd i (by omega)]
  exact C.ti.above i (by omega)

/-- ████ THE STARTER's STOP THAT HAS A WAY ON. ████ -/
theorem stepMoveS (hqW : q.W = c.W) (hqn : q.n = c.n) (C : Ctx P tA tW tB c q Anch W0 gs w G own pdo kS kW φS φW qO t) (hg : gs[0]? = some g) (hS : StpS P tA tW tB c q Anch (AtS P tA tW tB c q Anch kS) G.t0 g w) (hnw : ¬ waitS G.t0 G.s) :
    (∃ m₁ ops μ', runT P (crowd gs w sl) 0 = (.next m₁, ops) ∧ Lt2 μ' (rank c.W c.n G, Sum c G φS φW qO) ∧ MInv P tA tW tB c q Anch W0 μ' m₁ (t ++ ops)) ∨
    (∃ m₁ ops, runT P (crowd gs w sl) 0 = (.next m₁, ops) ∧ PEnd P tA tW tB c q Anch W0 m₁ (t ++ ops)) := by
  obtain ⟨_, _, hmv⟩ := hS
  have hgo := (hmv G.s C.shat (C.inv.fitS hqW)).2 hnw
  have hlow := C.shat.low
  have hmp : 1 ≤ G.s.st → G.s.mp < w.heap.size := fun x => (C.shat.m x).1
  by_cases hp : G.t0.pc = .sg
  · -- the go statement
    rw [if_pos hp] at hgo
    obtain ⟨T, g', child, hN, hTc, hTb, hs, hch, haft⟩ := hgo
    rw [hqn] at hN
    rw [hqW] at haft
    left
    have hI' := C.inv.spawn hp hN
    have hrk := rank_spawn (W := c.W) (n := c.n) C.inv hp hN hTc
    obtain ⟨e, he⟩ : ∃ e, kS = e + 1 := ⟨kS - 1, by have := C.dS; omega⟩
    rw [he] at haft
    have hlt : 0 < gs.size := (Array.getElem?_eq_some_iff.1 hg).1
    have hsz : gs.size = c.e + G.t0.j + 1 := by have := C.size; omega
    have hpp : (if G.t0.j + 1 < c.W then Sc.sb else .kd) = .sb ∨ (if G.t0.j + 1 < c.W then Sc.sb else .kd) = .kd := by split <;> simp
    have hti := C.ti.spawn (T := T) (x := { g := 0, fn := g.frame.fn, pos := g.frame.place, act := .go gs.size }) (y := { g := gs.size, fn := child.frame.fn, pos := g.frame.place, act := .start }) hp hN hTb ⟨rfl, by rw [hsz]⟩ ⟨hsz, rfl⟩ hpp
    have hbx0 : bxS G.t0 = some G.t0.bx := by simp [bxS, hp]
    obtain ⟨m0, hm0⟩ := hch (rank c.W c.n G)
    have haft' : ∃ m, GoesS P tA tW tB c q Anch { G.t0 with pc := if G.t0.j + 1 < c.W then .sb else .kd, j := G.t0.j + 1 } e m g' w := by
      unfold AfterS at haft
      rw [if_neg (by rcases hpp with x | x <;> simp [x])] at haft
      exact haft
    obtain ⟨m1, hm1⟩ := haft'
    have hbn : bxS { G.t0 with pc := if G.t0.j + 1 < c.W then .sb else .kd, j := G.t0.j + 1 } = none := by rcases hpp with x | x <;> simp [bxS, x]
    have hidj : idW c G.t0.j = gs.size := by unfold idW; omega
    refine ⟨_, _, (rank c.W c.n ⟨{ G.t0 with pc := if G.t0.j + 1 < c.W then .sb else .kd, j := G.t0.j + 1 }, upd G.th G.t0.j T, G.s⟩, _), runT_crowd_spawn hg hs, Prod.Lex.left _ _ hrk, _, w, sl, ⟨{ G.t0 with pc := if G.t0.j + 1 < c.W then .sb else .kd, j := G.t0.j + 1 }, upd G.th G.t0.j T, G.s⟩, own, pdo, e, upd kW G.t0.j (rank c.W c.n G), MM c * m1 + 1, upd φW G.t0.j (MM c * m0 + 1), qO, rfl, ?_, rfl⟩
    have hts : ((MemOp.ofEvents 0 g.frame.fn g.frame.place #[]).push { g := 0, fn := g.frame.fn, pos := g.frame.place, act := .go gs.size }).push { g := gs.size, fn := child.frame.fn, pos := g.frame.place, act := .start } = #[{ g := 0, fn := g.frame.fn, pos := g.frame.place, act := .go gs.size }, { g := gs.size, fn := child.frame.fn, pos := g.frame.place, act := .start }] := rfl
    rw [hts]
    have hdf : ∀ i, Deaf (t ++ #[{ g := 0, fn := g.frame.fn, pos := g.frame.place, act := .go gs.size }, { g := gs.size, fn := child.frame.fn, pos := g.frame.place, act := .start }]) i = Deaf t i := fun i => by
      have e : ∀ x y : MemOp, t ++ #[x, y] = (t ++ #[x]) ++ #[y] := fun x y => by apply Array.ext'; simp
      rw [e, Deaf_push, Deaf_push]
      rfl
    refine ⟨by simp only [Array.size_push, Array.size_setIfInBounds]; omega, hI', C.shat, Nat.le_of_lt_succ (Nat.lt_of_lt_of_le hrk (by have := C.dS; rw [he] at this; exact this)), fun a ha => ?_, ⟨g', by rw [Array.getElem?_push_lt (by simpa using hlt)]; simp [hlt], .inl ⟨m1, rfl, hm1⟩⟩, fun a ha => ?_, fun i h1 h2 => ?_, hti, fun a ha hq => ?_, ?_, fun a ha => ?_, fun b hb => ?_, ?_, C.far⟩
    · simp only at ha ⊢
      by_cases ea : a = G.t0.j
      · subst ea; rw [upd_same]; exact Nat.le_of_lt hrk
      · rw [upd_ne _ _ ea]; exact Nat.le_trans (Nat.le_of_lt hrk) (C.dW a (by omega))
    · simp only at ha ⊢
      by_cases ea : a = G.t0.j
      · subst ea
        simp only [upd_same]
        refine ⟨child, by rw [hidj, Array.getElem?_push, if_pos (by simp)], .inl ⟨?_, m0, rfl, hm0⟩⟩
        rcases hN.pc with ⟨_, x⟩ | ⟨_, x⟩ <;> rw [x] <;> simp
      · simp only [upd_ne _ _ ea]
        obtain ⟨ga, h1, h2⟩ := C.sitW a (by omega)
        refine ⟨ga, ?_, by rw [hdf]; exact h2⟩
        have hla := (Array.getElem?_eq_some_iff.1 h1).1
        rw [Array.getElem?_push, if_neg (by simp; omega), Array.getElem?_setIfInBounds_ne (Ne.symm idW_ne)]
        exact h1
    · obtain ⟨gi, h3, h4⟩ := C.old i h1 h2
      have hla := (Array.getElem?_eq_some_iff.1 h3).1
      refine ⟨gi, ?_, by rw [hdf]; exact h4⟩
      rw [Array.getElem?_push, if_neg (by simp; omega), Array.getElem?_setIfInBounds_ne (by omega)]
      exact h3
    · simp only at ha hq ⊢
      by_cases ea : a = G.t0.j
      · subst ea; rw [upd_same]; rcases hN.pc with ⟨_, x⟩ | ⟨_, x⟩ <;> rw [x] <;> rfl
      · rw [upd_ne _ _ ea] at hq ⊢; exact C.qc a (by omega) hq
    · -- the boxes
      have hb0 : bxOf c G 0 = some G.t0.bx := by simp [bxOf, hbx0]
      have hval : ∀ i, bxOf c ⟨{ G.t0 with pc := if G.t0.j + 1 < c.W then .sb else .kd, j := G.t0.j + 1 }, upd G.th G.t0.j T, G.s⟩ i = if i = 0 then none else if i - (c.e + 1) = G.t0.j then some G.t0.bx else bxOf c G i := fun i => by
        unfold bxOf
        by_cases h0 : i = 0
        · simp only [h0, if_true]; exact hbn
        · simp only [if_neg h0]
          by_cases ei : i - (c.e + 1) = G.t0.j
          · rw [if_pos ei, ei, upd_same, hTb]
          · rw [if_neg ei, upd_ne _ _ ei]
      refine ⟨fun i b hi hb => ?_, fun i i' b hi hi' hb hb' => ?_⟩
      · rw [hval] at hb
        split at hb
        · cases hb
        · split at hb
          · cases hb; exact C.sep.bxLow 0 _ (.inl rfl) hb0
          · refine C.sep.bxLow i b ?_ hb
            rcases hi with hi | hi
            · exact .inl hi
            · simp only at hi; exact .inr ⟨hi.1, by omega⟩
      · rw [hval] at hb hb'
        split at hb
        · cases hb
        · rename_i n0
          split at hb'
          · cases hb'
          · rename_i n0'
            have hle : ∀ x, Sd c (G.t0.j + 1) x → x ≠ 0 → ¬ x - (c.e + 1) = G.t0.j → Sd c G.t0.j x := fun x hx h0 hne => by
              rcases hx with hx | hx
              · exact absurd hx h0
              · exact .inr ⟨hx.1, by omega⟩
            split at hb
            · rename_i ei
              split at hb'
              · rename_i ei'
                simp only at hi hi'
                rcases hi with hi | hi
                · exact absurd hi n0
                · rcases hi' with hi' | hi'
                  · exact absurd hi' n0'
                  · omega
              · rename_i ei'
                cases hb
                have := C.sep.bxInj 0 i' _ (.inl rfl) (hle i' hi' n0' ei') hb0 hb'
                exact absurd this.symm n0'
            · rename_i ei
              split at hb'
              · cases hb'
                have := C.sep.bxInj 0 i _ (.inl rfl) (hle i hi n0 ei) hb0 hb
                exact absurd this.symm n0
              · rename_i ei'
                exact C.sep.bxInj i i' b (hle i hi n0 ei) (hle i' hi' n0' ei') hb hb'
    · simp only at ha ⊢
      by_cases ea : a = G.t0.j
      · subst ea; rw [upd_same, hTb]; exact C.bxs _ hbx0
      · rw [upd_ne _ _ ea]; exact C.bxw a (by omega)
    · simp only at hb
      rw [hbn] at hb
      cases hb
    · simp only
      rcases hpp with x | x <;> rw [x] <;> simp
  · rw [if_neg hp] at hgo
    obtain ⟨t', s', g', w', es, hst, hs, hsh', heff, hev, hsz, haft⟩ := hgo
    rw [hqW] at hst
    have hI' := C.inv.starter hst hp
    have hrk := rank_starter (W := c.W) (n := c.n) C.inv hst hp
    obtain ⟨r1, r2, r3, r4, r5, r6⟩ := stepS_rest hst hp
    obtain ⟨e, he⟩ : ∃ e, kS = e + 1 := ⟨kS - 1, by have := C.dS; omega⟩
    rw [he] at haft
    have hsize : w.heap.size ≤ w'.heap.size := heff.size
    have hti := C.ti.starter (fn := g.frame.fn) (pos := g.frame.place) (Bd' := w'.heap.size) C.sep hst hp hlow (fun b hb => (C.bxs b hb).1) hev hsz
    have hbl : ∀ b, bxS G.t0 = some b → c.Low ≤ b := fun b hb => C.sep.bxLow 0 b (.inl rfl) (by simp [bxOf, hb])
    have hRK : ∀ o : Option Nat, (∀ b, o = some b → c.Low ≤ b ∧ b < w.heap.size ∧ (1 ≤ G.s.st → b ≠ G.s.mp) ∧ bxS G.t0 ≠ some b) → RK tA tW tB c o w w' := fun o ho => RK.of_eff C.shat heff hsh' ho hbl (fun h => ⟨r3.trans h, r4⟩)
    have hoW : ∀ a, a < G.t0.j → ∀ b, some (G.th a).bx = some b → c.Low ≤ b ∧ b < w.heap.size ∧ (1 ≤ G.s.st → b ≠ G.s.mp) ∧ bxS G.t0 ≠ some b := fun a ha b hb => by
      cases hb
      exact ⟨C.sep.bxLow (idW c a) _ (idW_sd ha) (bxOf_w a), (C.bxw a ha).1, (C.bxw a ha).2, fun x => absurd (C.sep.bxInj 0 (idW c a) _ (.inl rfl) (idW_sd ha) (by simp [bxOf, x]) (bxOf_w a)).symm idW_ne⟩
    have hmst : ∀ {p : Prop}, 1 ≤ s'.st → (1 ≤ G.s.st → s'.mp = G.s.mp → p) → p := fun h1 h2 => h2 (by rw [← r3]; exact h1) r4
    by_cases hfin : t'.pc = .fin
    · -- THE ANCHOR
      right
      have haq : G.t0.pc = .aq := by
        cases hq : G.t0.pc <;> simp only [StepS, hq] at hst
        case aq => rfl
        case sb => obtain ⟨⟨z, rfl⟩, _⟩ := hst; cases hfin
        case sa => obtain ⟨rfl, _⟩ := hst; simp only at hfin; split at hfin <;> cases hfin
        case sg => exact absurd hq hp
        case w1 => obtain ⟨⟨_, rfl⟩ | ⟨_, rfl⟩, _⟩ := hst <;> cases hfin
        case w2 => rcases hst with ⟨_, rfl, _⟩ | ⟨_, rfl, _⟩ <;> cases hfin
        case w3 => obtain ⟨_, rfl, _⟩ := hst; cases hfin
        all_goals (obtain ⟨rfl, _⟩ := hst; cases hfin)
      simp only [StepS, haq] at hst
      obtain ⟨rfl, rfl⟩ := hst
      rw [if_neg (by rw [haq]; simp)] at hsz
      have hgr := C.inv.grp
      unfold Grp at hgr
      simp only [haq] at hgr
      obtain ⟨hj, hP, _, _, _, hM2, hM4⟩ := hgr
      have hquit : ∀ k, k < c.W → (G.th k).pc = .quit := fun k hk => by
        have a1 : ¬ pre (G.th k) = true := fun x => by have := cP_pos (th := G.th) (j := G.t0.j) (k := k) (by omega) x; omega
        have a2 : ¬ mid2 (G.th k) = true := fun x => by have := cP_pos (th := G.th) (j := G.t0.j) (k := k) (by omega) x; omega
        have a4 : ¬ mid4 (G.th k) = true := fun x => by have := cP_pos (th := G.th) (j := G.t0.j) (k := k) (by omega) x; omega
        cases hq : (G.th k).pc <;> simp [pre, mid2, mid4, hq] at a1 a2 a4 ⊢
      simp only [EvS, haq] at hev
      subst hev
      have hz : MemOp.ofEvents 0 g.frame.fn g.frame.place #[mkE (.acquire (stA c.Wg))] = #[{ g := 0, fn := g.frame.fn, pos := g.frame.place, act := .mark (.acquire (stA c.Wg)) }] := ofEvents_one 0 _
      have hd0 : Deaf t 0 = 0 := by rw [C.ti.deaf0]; simp [dfS, haq]
      have htt := C.ti.tt
      rw [hj] at htt
      have hpast := htt.join (z := { g := 0, fn := g.frame.fn, pos := g.frame.place, act := .mark (.acquire (stA c.Wg)) }) (fun k hk => C.ti.rel k (by omega) (by simp [saidW, hquit k hk])) rfl rfl hd0 (B := w.heap.size) (by have := c.lw; omega) C.ti.low
      unfold AfterS at haft
      rw [if_pos rfl] at haft
      obtain ⟨qq, hL⟩ := leavers_of C hj hquit (t' := t ++ MemOp.ofEvents 0 g.frame.fn g.frame.place #[mkE (.acquire (stA c.Wg))]) (fun i hi => Deaf_other t (Ne.symm hi) _ ofE_g)
        (gs' := (gs.map (woken P g g' w')).setIfInBounds 0 g') (fun i hi => by
          rw [Array.getElem?_setIfInBounds_ne (by omega), Array.getElem?_map]
          cases hgi : gs[i]? with
          | none => rfl
          | some gi =>
            have hq : ∃ n d, QuitsD P n d gi := by
              have hil := (Array.getElem?_eq_some_iff.1 hgi).1
              by_cases hie : i ≤ c.e
              · obtain ⟨g2, h1, h2⟩ := C.old i hi hie
                rw [hgi] at h1
                cases h1
                exact ⟨_, _, h2⟩
              · have hk : i - (c.e + 1) < G.t0.j := by have := C.size; omega
                have ei : idW c (i - (c.e + 1)) = i := by unfold idW; omega
                obtain ⟨g2, h1, h2⟩ := C.sitW _ hk
                rw [ei, hgi] at h1
                cases h1
                rcases h2 with ⟨h3, _⟩ | ⟨h3, _⟩ | ⟨_, n, _, h4⟩
                · exact absurd (hquit _ (by omega)) h3
                · exact absurd (hquit _ (by omega)) h3
                · exact ⟨n, _, h4⟩
            obtain ⟨n, d, hq⟩ := hq
            rw [Option.map_some, woken_quitsD hq]) (by simp)
      refine ⟨_, _, runT_crowd_go hg hs, _, g', w', sl, _, G.th, qq, rfl, by simp [C.size, hj], getElem?_self hg, haft, hL, ?_, hsh', ?_, hquit, ?_, ?_, C.far.trans (hRK none (fun _ h => by cases h))⟩
      · rw [hsz, hz]; exact hpast
      · have := C.inv.cont; rw [hj] at this; exact this
      · have := C.inv.onc; rw [hj] at this; exact this
      · have := C.inv.mb; rw [hj] at this; exact this
    · left
      obtain ⟨φS', φW', o1, o2, o3, o4, o5⟩ := C.others (x := g) (x' := g') (w' := w') (s' := s') (t' := t ++ MemOp.ofEvents 0 g.frame.fn g.frame.place es) (i := 0) (fun x => absurd rfl x) (fun a ha _ => hRK _ (hoW a ha)) (fun h => absurd h hnw)
        (fun a _ _ h => .inl ⟨h.1, h.2.1, by rw [r2]; exact h.2.2⟩) (fun i' hi' => Deaf_other t (Ne.symm hi') _ ofE_g)
      unfold AfterS at haft
      rw [if_neg hfin] at haft
      obtain ⟨m1, hm1⟩ := haft
      have hbx' : ∀ b, bxS t' = some b → (bxS G.t0 = some b) ∨ (b = w.heap.size ∧ w'.heap.size = w.heap.size + 1) := fun b hb => by
        rcases r6 with h1 | ⟨h1, h2⟩
        · exact .inl (by rw [← h1]; exact hb)
        · rw [if_pos h1] at hsz
          rw [h2] at hb
          cases hb
          exact .inr ⟨hsz.2, hsz.1⟩
      refine ⟨_, _, (rank c.W c.n ⟨t', G.th, s'⟩, _), runT_crowd_go hg hs, Prod.Lex.left _ _ hrk, _, w', sl, ⟨t', G.th, s'⟩, own, pdo, e, kW, MM c * m1 + 1, φW', qO, rfl, ?_, rfl⟩
      refine ⟨by simp only [Array.size_setIfInBounds, Array.size_map]; rw [r1]; exact C.size, hI', hsh', Nat.le_of_lt_succ (Nat.lt_of_lt_of_le hrk (by have := C.dS; rw [he] at this; exact this)), fun a ha => ?_, ⟨g', getElem?_self hg, .inl ⟨m1, rfl, hm1⟩⟩, fun a ha => ?_, fun i h1 h2 => o5 i h1 h2 (by omega), hti, fun a ha hq => C.qc a (by simp only at ha; omega) hq, ?_, fun a ha => ?_, fun b hb => ?_, hfin, C.far.trans (hRK none (fun _ h => by cases h))⟩
      · simp only at ha; exact Nat.le_trans (Nat.le_of_lt hrk) (C.dW a (by omega))
      · simp only at ha; exact o4 a (by omega) idW_ne
      · have hval : ∀ i b, bxOf c ⟨t', G.th, s'⟩ i = some b → bxOf c G i = some b ∨ (i = 0 ∧ b = w.heap.size) := fun i b hb => by
          unfold bxOf at hb ⊢
          by_cases h0 : i = 0
          · simp only [h0, if_true] at hb ⊢
            rcases hbx' b hb with h1 | h1
            · exact .inl h1
            · exact .inr ⟨trivial, h1.1⟩
          · simp only [if_neg h0] at hb ⊢
            exact .inl hb
        have hold : ∀ i b, Sd c G.t0.j i → bxOf c G i = some b → b < w.heap.size := fun i b hi hb => by
          by_cases h0 : i = 0
          · subst h0; exact (C.bxs b (by simpa [bxOf] using hb)).1
          · rcases hi with hi | hi
            · exact absurd hi h0
            · obtain ⟨a, ha, rfl⟩ : ∃ a, a < G.t0.j ∧ i = idW c a := ⟨i - (c.e + 1), by omega, by unfold idW; omega⟩
              rw [bxOf_w] at hb
              cases hb
              exact (C.bxw a ha).1
        refine ⟨fun i b hi hb => ?_, fun i i' b hi hi' hb hb' => ?_⟩
        · simp only at hi
          rw [r1] at hi
          rcases hval i b hb with h1 | h1
          · exact C.sep.bxLow i b hi h1
          · rw [h1.2]; exact hlow
        · simp only at hi hi'
          rw [r1] at hi hi'
          rcases hval i b hb with h1 | h1
          · rcases hval i' b hb' with h2 | h2
            · exact C.sep.bxInj i i' b hi hi' h1 h2
            · have := hold i b hi h1; omega
          · rcases hval i' b hb' with h2 | h2
            · have := hold i' b hi' h2; omega
            · rw [h1.1, h2.1]
      · simp only at ha ⊢
        have hb := C.bxw a (by omega)
        exact ⟨Nat.lt_of_lt_of_le hb.1 hsize, fun h1 => hmst h1 fun h2 h3 => by rw [h3]; exact hb.2 h2⟩
      · simp only at hb ⊢
        rcases hbx' b hb with h1 | ⟨h1, h2⟩
        · have hb := C.bxs b h1
          exact ⟨Nat.lt_of_lt_of_le hb.1 hsize, fun h1 => hmst h1 fun h2 h3 => by rw [h3]; exact hb.2 h2⟩
        · refine ⟨by omega, fun h3 => hmst h3 fun h4 h5 => ?_⟩
          rw [h5, h1]
          have := hmp h4
          omega
end
end Go.Proofs.Ytnlopklbbajlbaa.Sw
