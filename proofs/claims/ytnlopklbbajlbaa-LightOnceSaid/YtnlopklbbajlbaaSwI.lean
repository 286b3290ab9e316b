/- LightOnce: the invariant, through every step; somebody can always go on. -/
import Derived.Test.YtnlopklbbajlbaaSwG
namespace Go.Proofs.Ytnlopklbbajlbaa.Sw
open Go.ConcN (sumTo upd sumTo_upd upd_same upd_ne sumTo_congr le_sumTo sumTo_le)

def cP (th : Nat → Wk) (j : Nat) (f : Wk → Bool) : Nat := sumTo j fun k => ind (f (th k) = true)
structure Inv (W n B : Nat) (nm : Nat → ByteArray) (S0 : List ByteArray) (g : GS) : Prop where
  jW : g.t0.j ≤ W
  mb : MB g.th g.t0.j g.s
  locM : ∀ k, k < g.t0.j → LocM B (g.th k) (g.s.mx (g.th k).b)
  onc : Onc g.th g.t0.j g.s
  cont : Cont W n nm S0 g.th g.t0.j g.s
  grp : Grp W g.t0 (cP g.th g.t0.j pre) (cP g.th g.t0.j mid2) (cP g.th g.t0.j mid4) g.s

section
variable {th : Nat → Wk} {j k : Nat} {T T' X : Wk} {W n : Nat} {nm : Nat → ByteArray} {S0 : List ByteArray} {s s' : Sh} {B : Nat} {t : St}

theorem cP_upd (hk : k < j) (T' : Wk) (f : Wk → Bool) : cP (upd th k T') j f + ind (f (th k) = true) = cP th j f + ind (f T' = true) :=
  sumTo_upd th T' (fun T => ind (f T = true)) hk
theorem cP_pos (hk : k < j) {f : Wk → Bool} (h : f (th k) = true) : 1 ≤ cP th j f := by
  have := le_sumTo (f := fun k => ind (f (th k) = true)) hk
  simp only [ind_true h] at this
  exact this
theorem cP_le (f : Wk → Bool) : cP th j f ≤ j := by
  have := sumTo_le (f := fun k => ind (f (th k) = true)) (c := 1) (j := j) fun i _ => ind_le _
  simpa [cP] using this
theorem cP_some {f : Wk → Bool} : ∀ {j : Nat}, 0 < cP th j f → ∃ k, k < j ∧ f (th k) = true
  | j + 1, h => by
    unfold cP at h
    rw [sumTo] at h
    by_cases e : f (th j) = true
    · exact ⟨j, by omega, e⟩
    · rw [ind_false e] at h
      obtain ⟨k, h1, h2⟩ := cP_some (j := j) h
      exact ⟨k, by omega, h2⟩

set_option maxHeartbeats 4000000 in
/-- The group, through a worker's step. -/
theorem Grp.stepW (h : Grp W t (cP th t.j pre) (cP th t.j mid2) (cP th t.j mid4) s) (hk : k < t.j) (hT : th k = T) (hst : Step W n nm T s X s') (c' : Nat) :
    Grp W t (cP (upd th k { X with c := c' }) t.j pre) (cP (upd th k { X with c := c' }) t.j mid2) (cP (upd th k { X with c := c' }) t.j mid4) s' := by
  have r := step_rest hst
  obtain ⟨g1, g2, g3, g4, g5⟩ := grp_step hst
  have p1 := cP_upd (th := th) hk { X with c := c' } pre
  have p2 := cP_upd (th := th) hk { X with c := c' } mid2
  have p3 := cP_upd (th := th) hk { X with c := c' } mid4
  rw [hT] at p1 p2 p3
  have e1 : ind (pre { X with c := c' } = true) = ind (pre X = true) := rfl
  have e2 : ind (mid2 { X with c := c' } = true) = ind (mid2 X = true) := rfl
  have e3 : ind (mid4 { X with c := c' } = true) = ind (mid4 X = true) := rfl
  rw [e1] at p1
  rw [e2] at p2
  rw [e3] at p3
  have q1 : pre T = true → 1 ≤ cP th t.j pre := fun e => cP_pos hk (by rw [hT]; exact e)
  have q2 : mid2 T = true → 1 ≤ cP th t.j mid2 := fun e => cP_pos hk (by rw [hT]; exact e)
  have q3 : mid4 T = true → 1 ≤ cP th t.j mid4 := fun e => cP_pos hk (by rw [hT]; exact e)
  have rv := r.wv
  have rw' := r.ww
  have rs := r.ws
  generalize cP th t.j pre = P at *
  generalize cP th t.j mid2 = M2 at *
  generalize cP th t.j mid4 = M4 at *
  generalize cP (upd th k { X with c := c' }) t.j pre = P' at *
  generalize cP (upd th k { X with c := c' }) t.j mid2 = M2' at *
  generalize cP (upd th k { X with c := c' }) t.j mid4 = M4' at *
  by_cases h1 : T.pc = .d1
  · obtain ⟨a1, a2, a3, a4, a5, a6⟩ := g1 h1
    rw [if_pos h1] at rv
    rw [if_neg (by rw [h1]; simp)] at rw'
    rw [if_neg (by rw [h1]; simp)] at rs
    have := q1 a1
    simp only [a1, a2, a3, a4, a5, ind, if_true, if_false, Bool.false_eq_true] at p1 p2 p3
    by_cases hw : s.wv = 1 ∧ s.ww = 1
    · rw [if_pos (a6.2 hw)] at p2
      unfold Grp at h ⊢
      cases hp : t.pc <;> simp only [hp] at h ⊢ <;> omega
    · rw [if_neg (fun x => hw (a6.1 x))] at p2
      unfold Grp at h ⊢
      cases hp : t.pc <;> simp only [hp] at h ⊢ <;> omega
  rw [if_neg h1] at rv
  by_cases h2 : T.pc = .d2
  · obtain ⟨a1, a2, a3⟩ := g2 h2
    have b1 : pre T = false := by simp [pre, h2]
    have b2 : mid2 T = true := by simp [mid2, h2]
    have b3 : mid4 T = false := by simp [mid4, h2]
    rw [if_neg (by rw [h2]; simp)] at rw'
    rw [if_neg (by rw [h2]; simp)] at rs
    simp only [a1, a2, a3, b1, b2, b3, ind, if_true, if_false, Bool.false_eq_true] at p1 p2 p3
    unfold Grp at h ⊢
    cases hp : t.pc <;> simp only [hp] at h ⊢ <;> omega
  by_cases h3 : T.pc = .d3
  · obtain ⟨a1, a2, a3⟩ := g3 h3
    have b1 : pre T = false := by simp [pre, h3]
    have b2 : mid2 T = true := by simp [mid2, h3]
    have b3 : mid4 T = false := by simp [mid4, h3]
    rw [if_pos h3] at rw'
    rw [if_neg (by rw [h3]; simp)] at rs
    have := q2 b2
    simp only [a1, a2, a3, b1, b2, b3, ind, if_true, if_false, Bool.false_eq_true] at p1 p2 p3
    unfold Grp at h ⊢
    cases hp : t.pc <;> simp only [hp] at h ⊢ <;> omega
  rw [if_neg h3] at rw'
  by_cases h4 : T.pc = .d4
  · obtain ⟨a1, a2, a3⟩ := g4 h4
    have b1 : pre T = false := by simp [pre, h4]
    have b2 : mid2 T = false := by simp [mid2, h4]
    have b3 : mid4 T = true := by simp [mid4, h4]
    rw [if_pos h4] at rs
    have := q3 b3
    simp only [a1, a2, a3, b1, b2, b3, ind, if_true, if_false, Bool.false_eq_true] at p1 p2 p3
    unfold Grp at h ⊢
    cases hp : t.pc <;> simp only [hp] at h ⊢ <;> omega
  rw [if_neg h4] at rs
  obtain ⟨a1, a2, a3⟩ := g5 h1 h2 h3 h4
  rw [a1] at p1
  rw [a2] at p2
  rw [a3] at p3
  obtain rfl : P' = P := by omega
  obtain rfl : M2' = M2 := by omega
  obtain rfl : M4' = M4 := by omega
  unfold Grp at h ⊢
  rw [rv, rw', rs]
  exact h

theorem LocM.c (c' : Nat) (x : Mx) : LocM B { T with c := c' } x ↔ LocM B T x := Iff.rfl

/-- ████ A WORKER's STEP KEEPS THE INVARIANT. ████ -/
theorem Inv.worker (hW : 0 < W) (hB : 3 * W ≤ B) (hinj : ∀ a b, a < n → b < n → nm a = nm b → a = b) {g : GS} (h : Inv W n B nm S0 g) (hk : k < g.t0.j) (hm : Mv W n nm (g.th k) g.s T' s') :
    Inv W n B nm S0 ⟨g.t0, upd g.th k T', s'⟩ := by
  obtain ⟨t, th, s⟩ := g
  simp only at hk hm
  rcases hm with ⟨_, hss, c', _, rfl⟩ | ⟨_, X, c', hst, rfl, _⟩
  · -- a quiet step
    obtain rfl : s = s' := hss.symm
    have kk : ∀ {α : Type} (φ : Wk → α), (∀ T : Wk, φ { T with c := c' } = φ T) → ∀ a, φ (upd th k { th k with c := c' } a) = φ (th a) := fun φ hφ a => by
      by_cases e : a = k
      · subst e; rw [upd_same, hφ]
      · rw [upd_ne _ _ e]
    have cc : ∀ f : Wk → Bool, (∀ T : Wk, f { T with c := c' } = f T) → cP (upd th k { th k with c := c' }) t.j f = cP th t.j f := fun f hf => sumTo_congr fun a _ => by rw [kk f hf]
    refine ⟨h.jW, h.mb.quiet hk c', fun k' hk' => ?_, ⟨fun k' hk' => ?_, fun hd => ?_, h.onc.yes⟩, ⟨fun k' hk' => ?_, fun k' hk' => ?_, h.cont.nodup, fun x => ?_, ?_, fun i hi => ?_⟩, ?_⟩
    · exact (kk (fun T => LocM B T (s.mx T.b)) (fun _ => rfl) k').mpr (h.locM k' hk')
    · exact (kk (fun T => LocO T s) (fun _ => rfl) k').mpr (h.onc.loc k' hk')
    · rcases h.onc.no hd with h0 | ⟨k', h1, h2⟩
      · exact .inl h0
      · exact .inr ⟨k', h1, by rw [show (upd th k { th k with c := c' } k').pc = (th k').pc from kk (·.pc) (fun _ => rfl) k']; exact h2⟩
    · exact (kk (fun T => LocI W n k' T) (fun _ => rfl) k').mpr (h.cont.item k' hk')
    · exact (kk (fun T => LocC nm S0 T s) (fun _ => rfl) k').mpr (h.cont.loc k' hk')
    · rw [h.cont.mem x]
      have : ∀ i, did (upd th k { th k with c := c' } (i % W)) i = did (th (i % W)) i := fun i => kk (fun T => did T i) (fun _ => rfl) _
      simp only [this]
    · rw [h.cont.num]
      exact congrArg _ (sumTo_congr fun a _ => (kk (fun T => ind (adding T = true)) (fun _ => rfl) a).symm)
    · rw [h.cont.fr i hi, show (upd th k { th k with c := c' } (i % W)).i = (th (i % W)).i from kk (·.i) (fun _ => rfl) _]
    · show Grp W t (cP (upd th k { th k with c := c' }) t.j pre) (cP (upd th k { th k with c := c' }) t.j mid2) (cP (upd th k { th k with c := c' }) t.j mid4) s
      rw [cc pre (fun _ => rfl), cc mid2 (fun _ => rfl), cc mid4 (fun _ => rfl)]
      exact h.grp
  · have hjB : 3 * t.j ≤ B := Nat.le_trans (Nat.mul_le_mul_left 3 h.jW) hB
    refine ⟨h.jW, h.mb.stepS hk rfl hst (h.locM k hk) c', fun k' hk' => ?_, h.onc.stepS h.mb hk rfl hst c', h.cont.stepS (h.onc.loc k hk) hW hinj hk rfl hst c', Grp.stepW (th := th) (t := t) h.grp hk rfl hst c'⟩
    by_cases e : k' = k
    · subst e
      simp only [upd_same]
      have := LocM.own (T := th k') (th := th) (s := s) (X := X) h.mb hjB hk rfl hst (h.locM k' hk)
      exact this
    · simp only [upd_ne _ _ e]
      exact LocM.other h.mb hk hk' e rfl hst (h.locM k hk) (h.locM k' hk')

/-- A worker that is just started. -/
structure New (n k : Nat) (T : Wk) : Prop where
  i : T.i = k
  pc : (k < n ∧ T.pc = .bx) ∨ (n ≤ k ∧ T.pc = .wr)

/-- ████ THE STARTER's STEP KEEPS THE INVARIANT. ████ -/
theorem Inv.starter {g : GS} (h : Inv W n B nm S0 g) {X : St} (hs : StepS W g.t0 g.s X s') (hp : g.t0.pc ≠ .sg) : Inv W n B nm S0 ⟨X, g.th, s'⟩ := by
  obtain ⟨t, th, s⟩ := g
  simp only at hs hp
  have hg := h.grp
  simp only at hg
  have hle := cP_le (th := th) (j := t.j) pre
  unfold Grp at hg
  have key : ∀ {X : St} {s' : Sh}, X.j = t.j → s'.mo = s.mo → s'.ml = s.ml → s'.done = s.done → s'.st = s.st → s'.mp = s.mp → s'.con = s.con → s'.num = s.num → s'.fr = s.fr → Grp W X (cP th t.j pre) (cP th t.j mid2) (cP th t.j mid4) s' → Inv W n B nm S0 ⟨X, th, s'⟩ := by
    intro X s' ej e1 e2 e3 e4 e5 e6 e7 e8 hg
    have emx : ∀ b, s'.mx b = s.mx b := fun b => by cases b; exact e2; exact e1
    refine ⟨by rw [show (GS.mk X th s').t0.j = t.j from ej]; exact h.jW, fun b => ?_, fun k hk => ?_, ⟨fun k hk => ?_, fun hd => ?_, fun hd => ?_⟩, ⟨fun k hk => ?_, fun k hk => ?_, ?_, fun x => ?_, ?_, fun i hi => ?_⟩, ?_⟩
    · show MxOK (s'.mx b) (cnt th X.j b)
      rw [ej, emx]; exact h.mb b
    · show LocM B (th k) (s'.mx (th k).b)
      rw [emx]; exact h.locM k (by rw [← ej]; exact hk)
    · exact (h.onc.loc k (by rw [← ej]; exact hk)).congr e3 e4 e5
    · rw [show (GS.mk X th s').t0.j = t.j from ej, show (GS.mk X th s').s.st = s.st from e4]
      exact h.onc.no (by rw [← e3]; exact hd)
    · rw [show (GS.mk X th s').s.st = s.st from e4]
      exact h.onc.yes (by rw [← e3]; exact hd)
    · exact h.cont.item k (by rw [← ej]; exact hk)
    · have := h.cont.loc k (by rw [← ej]; exact hk)
      show LocC nm S0 (th k) s'
      unfold LocC at this ⊢
      rw [e6]; exact this
    · show s'.con.Nodup
      rw [e6]; exact h.cont.nodup
    · show x ∈ s'.con ↔ _
      rw [e6, show (GS.mk X th s').t0.j = t.j from ej]; exact h.cont.mem x
    · show s'.num = s'.con.length + _
      rw [e6, e7, show (GS.mk X th s').t0.j = t.j from ej]; exact h.cont.num
    · show s'.fr i = true ↔ _
      rw [e8, show (GS.mk X th s').t0.j = t.j from ej]; exact h.cont.fr i hi
    · show Grp W X (cP th X.j pre) (cP th X.j mid2) (cP th X.j mid4) s'
      rw [ej]; exact hg
  cases hq : t.pc <;> simp only [StepS, hq] at hs hg
  case sb => obtain ⟨⟨z, rfl⟩, rfl⟩ := hs; exact key rfl rfl rfl rfl rfl rfl rfl rfl rfl (by unfold Grp; exact hg)
  case so => obtain ⟨rfl, rfl⟩ := hs; exact key rfl rfl rfl rfl rfl rfl rfl rfl rfl (by unfold Grp; exact hg)
  case sd => obtain ⟨rfl, rfl⟩ := hs; exact key rfl rfl rfl rfl rfl rfl rfl rfl rfl (by unfold Grp; exact hg)
  case sa =>
    obtain ⟨rfl, rfl⟩ := hs
    refine key rfl rfl rfl rfl rfl rfl rfl rfl rfl ?_
    unfold Grp
    by_cases e : s.wv = 0 <;> simp only [e, if_true, if_false] <;> omega
  case sr => obtain ⟨rfl, rfl⟩ := hs; exact key rfl rfl rfl rfl rfl rfl rfl rfl rfl (by unfold Grp; exact hg)
  case se => obtain ⟨rfl, rfl⟩ := hs; exact key rfl rfl rfl rfl rfl rfl rfl rfl rfl (by unfold Grp; exact hg)
  case sg => exact absurd hq hp
  case kd => obtain ⟨rfl, rfl⟩ := hs; exact key rfl rfl rfl rfl rfl rfl rfl rfl rfl (by unfold Grp; exact hg)
  case w1 =>
    obtain ⟨⟨h0, rfl⟩ | ⟨h0, rfl⟩, rfl⟩ := hs
    · exact key rfl rfl rfl rfl rfl rfl rfl rfl rfl (by unfold Grp; simp only; omega)
    · exact key rfl rfl rfl rfl rfl rfl rfl rfl rfl (by unfold Grp; simp only; omega)
  case w2 =>
    obtain ⟨q1, q2, q3, q4, q5, q6, q7⟩ := hg
    rcases hs with ⟨h0, rfl, rfl⟩ | ⟨h0, rfl, rfl⟩
    · exact key rfl rfl rfl rfl rfl rfl rfl rfl rfl (by unfold Grp; exact ⟨q1, .inl ⟨by omega, q2, rfl, q4, q5, q6⟩⟩)
    · exact key rfl rfl rfl rfl rfl rfl rfl rfl rfl (by unfold Grp; exact ⟨q1, q2, q3, q4, q5, q6⟩)
  case wx => obtain ⟨rfl, rfl⟩ := hs; exact key rfl rfl rfl rfl rfl rfl rfl rfl rfl (by unfold Grp; exact hg)
  case w3 =>
    obtain ⟨h0, rfl, rfl⟩ := hs
    exact key rfl rfl rfl rfl rfl rfl rfl rfl rfl (by unfold Grp; simp only; omega)
  case w4 => obtain ⟨rfl, rfl⟩ := hs; exact key rfl rfl rfl rfl rfl rfl rfl rfl rfl (by unfold Grp; exact hg)
  case ke => obtain ⟨rfl, rfl⟩ := hs; exact key rfl rfl rfl rfl rfl rfl rfl rfl rfl (by unfold Grp; exact hg)
  case aq => obtain ⟨rfl, rfl⟩ := hs; exact key rfl rfl rfl rfl rfl rfl rfl rfl rfl (by unfold Grp; exact hg)
end
end Go.Proofs.Ytnlopklbbajlbaa.Sw
