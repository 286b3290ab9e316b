/- LightOnce: where each goroutine stands while a phase runs; the others, while one steps. -/
import Derived.Test.YtnlopklbbajlbaaSwR
namespace Go.Proofs.Ytnlopklbbajlbaa.Sw
open Go Go.Conc Go.ConcN
open Go.ConcR (stA smA DC0)
open Go.ConcM (woken_by_blocked)

section
variable (P : Program) (tA tW tB : TypeId) (c : TC) (q : AP) (Anch : Sh → Goroutine → World → Prop)
/-- The weight of one own step: more than all others can be woken by it. -/
def MM (c : TC) : Nat := c.e + c.W + 3
def SitW (T : Wk) (k φ d : Nat) (s : Sh) (g : Goroutine) (w : World) : Prop :=
  (T.pc ≠ .quit ∧ ∃ m, φ = MM c * m + 1 ∧ GoesW P tA tW tB c q T k m g w) ∨
  (T.pc ≠ .quit ∧ φ = 0 ∧ waitW T s ∧ ∃ g₀, g = { g₀ with status := .blocked } ∧ GoesW P tA tW tB c q T k 0 g₀ w) ∨
  (T.pc = .quit ∧ ∃ n, φ = MM c * n ∧ QuitsD P n d g)
def SitS (t : St) (k φ : Nat) (s : Sh) (g : Goroutine) (w : World) : Prop :=
  (∃ m, φ = MM c * m + 1 ∧ GoesS P tA tW tB c q Anch t k m g w) ∨
  (φ = 0 ∧ waitS t s ∧ ∃ g₀, g = { g₀ with status := .blocked } ∧ GoesS P tA tW tB c q Anch t k 0 g₀ w)

structure Ctx (W0 : World) (gs : Array Goroutine) (w : World) (G : GS) (own pdo : Option Nat) (kS : Nat) (kW : Nat → Nat) (φS : Nat) (φW qO : Nat → Nat) (t : Trace) : Prop where
  size : gs.size = c.e + 1 + G.t0.j
  inv : Inv c.W c.n q.B q.nm q.S0 G
  shat : ShAt tA tW tB c w G.s
  dS : rank c.W c.n G ≤ kS
  dW : ∀ k, k < G.t0.j → rank c.W c.n G ≤ kW k
  sitS : ∃ g, gs[0]? = some g ∧ SitS P tA tW tB c q Anch G.t0 kS φS G.s g w
  sitW : ∀ k, k < G.t0.j → ∃ g, gs[idW c k]? = some g ∧ SitW P tA tW tB c q (G.th k) (kW k) (φW k) (Deaf t (idW c k)) G.s g w
  old : ∀ i, 0 < i → i ≤ c.e → ∃ g, gs[i]? = some g ∧ QuitsD P (qO i) (Deaf t i) g
  ti : TI c G own pdo w.heap.size t
  qc : ∀ k, k < G.t0.j → 0 < (G.th k).c → bare (G.th k).pc = false
  sep : Sep c G.t0.j (bxOf c G)
  bxw : ∀ k, k < G.t0.j → (G.th k).bx < w.heap.size ∧ (1 ≤ G.s.st → (G.th k).bx ≠ G.s.mp)
  bxs : ∀ b, bxS G.t0 = some b → b < w.heap.size ∧ (1 ≤ G.s.st → b ≠ G.s.mp)
  nf : G.t0.pc ≠ .fin
  far : RK tA tW tB c none W0 w
def Sum (c : TC) (G : GS) (φS : Nat) (φW qO : Nat → Nat) : Nat := φS + sumTo G.t0.j φW + sumTo c.e fun i => MM c * qO (i + 1)
end

section
variable {P : Program} {tA tW tB : TypeId} {c : TC} {q : AP} {Anch : Sh → Goroutine → World → Prop}
variable {T : Wk} {t0 : St} {k φ d : Nat} {s s' : Sh} {g x x' : Goroutine} {w w₁ w' W0 : World}

theorem GoesW.running {m : Nat} (h : GoesW P tA tW tB c q T k m g w) : g.status = .running := Goes.running (fun _ _ x => x.1) w (RK.refl _ w) h
theorem GoesS.running {m : Nat} (h : GoesS P tA tW tB c q Anch t0 k m g w) : g.status = .running := Goes.running (fun _ _ x => x.1) w (RK.refl _ w) h
theorem SitW.status (h : SitW P tA tW tB c q T k φ d s g w) : g.status = .running ∨ g.status = .blocked ∨ g.status = .finished := by
  rcases h with ⟨_, m, _, hg⟩ | ⟨_, _, _, g₀, rfl, _⟩ | ⟨_, n, _, hq⟩
  · exact .inl hg.running
  · exact .inr (.inl rfl)
  · exact hq.status.elim .inl fun x => .inr (.inr x)
theorem SitS.status (h : SitS P tA tW tB c q Anch t0 k φ s g w) : g.status = .running ∨ g.status = .blocked ∨ g.status = .finished := by
  rcases h with ⟨m, _, hg⟩ | ⟨_, _, g₀, rfl, _⟩
  · exact .inl hg.running
  · exact .inr (.inl rfl)
theorem SitW.rely (h : SitW P tA tW tB c q T k φ d s g w) (r : RK tA tW tB c (some T.bx) w w₁) : SitW P tA tW tB c q T k φ d s g w₁ := by
  rcases h with ⟨h1, m, h3, hg⟩ | ⟨h1, h2, h3, g₀, h5, hg⟩ | h
  · exact .inl ⟨h1, m, h3, Goes.rely (fun _ _ _ x y => x.trans y) hg r⟩
  · exact .inr (.inl ⟨h1, h2, h3, g₀, h5, Goes.rely (fun _ _ _ x y => x.trans y) hg r⟩)
  · exact .inr (.inr h)
theorem SitS.rely (h : SitS P tA tW tB c q Anch t0 k φ s g w) (r : RK tA tW tB c (bxS t0) w w₁) : SitS P tA tW tB c q Anch t0 k φ s g w₁ := by
  rcases h with ⟨m, h3, hg⟩ | ⟨h2, h3, g₀, h5, hg⟩
  · exact .inl ⟨m, h3, Goes.rely (fun _ _ _ x y => x.trans y) hg r⟩
  · exact .inr ⟨h2, h3, g₀, h5, Goes.rely (fun _ _ _ x y => x.trans y) hg r⟩

/-- Another, while x steps to x': it stands as it stood, or is woken. -/
theorem SitW.other (h : SitW P tA tW tB c q T k φ d s g w) (r : RK tA tW tB c (some T.bx) w w₁) (hw : waitW T s → waitW T s' ∨ (mayWake P x = true ∧ x'.status = .running)) :
    ∃ φ', φ' ≤ φ + 1 ∧ SitW P tA tW tB c q T k φ' d s' (woken P x x' w₁ g) w₁ := by
  rcases h with ⟨h1, m, h3, hg⟩ | ⟨h1, h3, h4, g₀, rfl, hg⟩ | ⟨h1, n, h3, hq⟩
  · refine ⟨φ, by omega, .inl ⟨h1, m, h3, ?_⟩⟩
    have : woken P x x' w₁ g = g := by unfold woken; split; exact again_running _ (.inl hg.running); rfl
    rw [this]
    exact Goes.rely (fun _ _ _ a b => a.trans b) hg r
  · have hg' := Goes.rely (fun _ _ _ a b => a.trans b) hg r
    have hst : AtW P tA tW tB c q (k + 1) T g₀ w₁ := hg' w₁ (RK.refl _ _)
    by_cases hc : (mayWake P x && x'.status != .blocked && x'.status != .waiting) = true
    · refine ⟨1, by omega, .inl ⟨h1, 0, by simp, ?_⟩⟩
      have : woken P x x' w₁ { g₀ with status := .blocked } = g₀ := by unfold woken; rw [if_pos hc]; exact Go.ConcR.again_blocked hst.1 hst.2.1 _
      rw [this]
      exact hg'
    · have : woken P x x' w₁ { g₀ with status := .blocked } = { g₀ with status := .blocked } := by unfold woken; rw [if_neg hc]
      rw [this]
      rcases hw h4 with h5 | ⟨h5, h6⟩
      · exact ⟨φ, by omega, .inr (.inl ⟨h1, h3, h5, g₀, rfl, hg'⟩)⟩
      · exact absurd (by simp [h5, h6]) hc
  · exact ⟨φ, by omega, .inr (.inr ⟨h1, n, h3, by rw [woken_quitsD hq]; exact hq⟩)⟩
theorem SitS.other (h : SitS P tA tW tB c q Anch t0 k φ s g w) (r : RK tA tW tB c (bxS t0) w w₁) (hw : waitS t0 s → waitS t0 s' ∨ (mayWake P x = true ∧ x'.status = .running)) :
    ∃ φ', φ' ≤ φ + 1 ∧ SitS P tA tW tB c q Anch t0 k φ' s' (woken P x x' w₁ g) w₁ := by
  rcases h with ⟨m, h3, hg⟩ | ⟨h3, h4, g₀, rfl, hg⟩
  · refine ⟨φ, by omega, .inl ⟨m, h3, ?_⟩⟩
    have : woken P x x' w₁ g = g := by unfold woken; split; exact again_running _ (.inl hg.running); rfl
    rw [this]
    exact Goes.rely (fun _ _ _ a b => a.trans b) hg r
  · have hg' := Goes.rely (fun _ _ _ a b => a.trans b) hg r
    have hst : AtS P tA tW tB c q Anch (k + 1) t0 g₀ w₁ := hg' w₁ (RK.refl _ _)
    by_cases hc : (mayWake P x && x'.status != .blocked && x'.status != .waiting) = true
    · refine ⟨1, by omega, .inl ⟨0, by simp, ?_⟩⟩
      have : woken P x x' w₁ { g₀ with status := .blocked } = g₀ := by unfold woken; rw [if_pos hc]; exact Go.ConcR.again_blocked hst.1 hst.2.1 _
      rw [this]
      exact hg'
    · have : woken P x x' w₁ { g₀ with status := .blocked } = { g₀ with status := .blocked } := by unfold woken; rw [if_neg hc]
      rw [this]
      rcases hw h4 with h5 | ⟨h5, h6⟩
      · exact ⟨φ, by omega, .inr ⟨h3, h5, g₀, rfl, hg'⟩⟩
      · exact absurd (by simp [h5, h6]) hc

/-- Only a release raises a semaphore. -/
theorem step_sem {W n : Nat} {nm : Nat → ByteArray} {T X : Wk} (h : Step W n nm T s X s') (b : Bool) (h0 : (s.mx b).sem = 0) : (s'.mx b).sem = 0 ∨ T.pc = .us := by
  have pt : ∀ (w : MuW), ((s.put T.b ⟨w, (s.mx T.b).sem⟩).mx b).sem = 0 := fun w => by
    by_cases e : T.b = b
    · subst e; rw [mx_put_same]; exact h0
    · rw [mx_put_ne _ e]; exact h0
  cases hp : T.pc <;> simp only [Step, hp] at h
  case us => exact .inr rfl
  case bx => obtain ⟨_, rfl⟩ := h; exact .inl h0
  case m0 => rcases h with ⟨_, _, rfl⟩ | ⟨_, _, rfl⟩; exact .inl (pt _); exact .inl h0
  case msq => obtain ⟨rfl, _⟩ := h; exact .inl h0
  case mc1 => rcases h with ⟨_, _, rfl⟩ | ⟨_, _, rfl⟩; exact .inl (pt _); exact .inl h0
  case mc2 => rcases h with ⟨_, rfl, _⟩ | ⟨_, _, rfl⟩; exact .inl (pt _); exact .inl h0
  case ms1 =>
    obtain ⟨_, rfl, _⟩ := h
    left
    by_cases e : T.b = b
    · subst e; rw [mx_put_same]; show (s.mx T.b).sem - 1 = 0; omega
    · rw [mx_put_ne _ e]; exact h0
  case ma1 => obtain ⟨_, rfl⟩ := h; exact .inl (pt _)
  case al => obtain ⟨z, _, rfl⟩ := h; left; cases b <;> exact h0
  case sl => obtain ⟨_, rfl⟩ := h; left; cases b <;> exact h0
  case dst => obtain ⟨_, rfl⟩ := h; left; cases b <;> exact h0
  case ian => obtain ⟨_, rfl⟩ := h; left; cases b <;> exact h0
  case iba => obtain ⟨_, rfl⟩ := h; left; cases b <;> exact h0
  case in2 => obtain ⟨_, rfl⟩ := h; left; cases b <;> exact h0
  case u0 => obtain ⟨rfl, _⟩ := h; exact .inl (pt _)
  case uc => rcases h with ⟨_, _, rfl⟩ | ⟨_, _, rfl⟩; exact .inl (pt _); exact .inl h0
  case wf => obtain ⟨_, rfl⟩ := h; left; cases b <;> exact h0
  case d1 => obtain ⟨_, rfl⟩ := h; left; cases b <;> exact h0
  case d3 => obtain ⟨_, rfl⟩ := h; left; cases b <;> exact h0
  case d4 => obtain ⟨_, rfl⟩ := h; left; cases b <;> exact h0
  all_goals (obtain ⟨_, rfl⟩ := h; exact .inl h0)

theorem getElem?_step {gs : Array Goroutine} {i i' : Nat} {y : Goroutine} {f : Goroutine → Goroutine} (h : gs[i']? = some g) (hne : i ≠ i') : ((gs.map f).setIfInBounds i y)[i']? = some (f g) := by
  rw [Array.getElem?_setIfInBounds_ne hne, Array.getElem?_map, h]; rfl
theorem getElem?_self {gs : Array Goroutine} {i : Nat} {y : Goroutine} {f : Goroutine → Goroutine} (h : gs[i]? = some g) : ((gs.map f).setIfInBounds i y)[i]? = some y := by
  have : i < gs.size := (Array.getElem?_eq_some_iff.1 h).1
  rw [Array.getElem?_setIfInBounds_self_of_lt (by simpa using this)]

/-- ████ THE OTHERS, WHILE NUMBER i STEPS. ████ -/
theorem Ctx.others {gs : Array Goroutine} {G : GS} {own pdo : Option Nat} {kS φS : Nat} {kW φW qO : Nat → Nat} {t t' : Trace} (C : Ctx P tA tW tB c q Anch W0 gs w G own pdo kS kW φS φW qO t)
    {i : Nat} (hs : i ≠ 0 → RK tA tW tB c (bxS G.t0) w w') (hk : ∀ k, k < G.t0.j → idW c k ≠ i → RK tA tW tB c (some (G.th k).bx) w w')
    (hwS : waitS G.t0 G.s → waitS G.t0 s' ∨ (mayWake P x = true ∧ x'.status = .running)) (hwW : ∀ k, k < G.t0.j → idW c k ≠ i → waitW (G.th k) G.s → waitW (G.th k) s' ∨ (mayWake P x = true ∧ x'.status = .running))
    (hd : ∀ i', i' ≠ i → Deaf t' i' = Deaf t i') :
    ∃ (φS' : Nat) (φW' : Nat → Nat), φS' ≤ φS + 1 ∧ (∀ k, k < G.t0.j → φW' k ≤ φW k + 1) ∧
      (i ≠ 0 → ∃ g, ((gs.map (woken P x x' w')).setIfInBounds i x')[0]? = some g ∧ SitS P tA tW tB c q Anch G.t0 kS φS' s' g w') ∧
      (∀ k, k < G.t0.j → idW c k ≠ i → ∃ g, ((gs.map (woken P x x' w')).setIfInBounds i x')[idW c k]? = some g ∧ SitW P tA tW tB c q (G.th k) (kW k) (φW' k) (Deaf t' (idW c k)) s' g w') ∧
      (∀ i', 0 < i' → i' ≤ c.e → i' ≠ i → ∃ g, ((gs.map (woken P x x' w')).setIfInBounds i x')[i']? = some g ∧ QuitsD P (qO i') (Deaf t' i') g) := by
  have hS : ∃ φS', φS' ≤ φS + 1 ∧ (i ≠ 0 → ∃ g, ((gs.map (woken P x x' w')).setIfInBounds i x')[0]? = some g ∧ SitS P tA tW tB c q Anch G.t0 kS φS' s' g w') := by
    by_cases h0 : i = 0
    · exact ⟨0, by omega, fun x => absurd h0 x⟩
    · obtain ⟨g, hg, hsit⟩ := C.sitS
      obtain ⟨φ', h1, h2⟩ := hsit.other (x := x) (x' := x') (s' := s') (hs h0) hwS
      exact ⟨φ', h1, fun _ => ⟨_, getElem?_step hg h0, h2⟩⟩
  have hW : ∀ k, ∃ φ', k < G.t0.j → φ' ≤ φW k + 1 ∧ (idW c k ≠ i → ∃ g, ((gs.map (woken P x x' w')).setIfInBounds i x')[idW c k]? = some g ∧ SitW P tA tW tB c q (G.th k) (kW k) φ' (Deaf t' (idW c k)) s' g w') := fun k => by
    by_cases hkj : k < G.t0.j
    · by_cases e : idW c k = i
      · exact ⟨0, fun _ => ⟨by omega, fun x => absurd e x⟩⟩
      · obtain ⟨g, hg, hsit⟩ := C.sitW k hkj
        obtain ⟨φ', h1, h2⟩ := hsit.other (x := x) (x' := x') (s' := s') (hk k hkj e) (hwW k hkj e)
        exact ⟨φ', fun _ => ⟨h1, fun _ => ⟨_, getElem?_step hg (Ne.symm e), by rw [hd _ e]; exact h2⟩⟩⟩
    · exact ⟨0, fun x => absurd x hkj⟩
  obtain ⟨φS', h1, h2⟩ := hS
  obtain ⟨φW', h3⟩ := Classical.axiomOfChoice hW
  refine ⟨φS', φW', h1, fun k hk' => (h3 k hk').1, h2, fun k hk' hne => (h3 k hk').2 hne, fun i' h4 h5 h6 => ?_⟩
  obtain ⟨g, hg, hq⟩ := C.old i' h4 h5
  exact ⟨_, getElem?_step hg (Ne.symm h6), by rw [woken_quitsD hq, hd _ h6]; exact hq⟩
end
end Go.Proofs.Ytnlopklbbajlbaa.Sw

namespace Go.Proofs.Ytnlopklbbajlbaa.Sw
open Go Go.Conc Go.ConcN
open Go.ConcR (stA smA DC0)
open Go.ConcM (woken_by_blocked)

section
variable {P : Program} {tA tW tB : TypeId} {c : TC} {q : AP} {Anch : Sh → Goroutine → World → Prop}
variable {k : Nat} {g g' : Goroutine} {w w' W0 : World} {gs : Array Goroutine} {G : GS} {own pdo : Option Nat} {kS φS : Nat} {kW φW qO : Nat → Nat} {t : Trace} {sl : Option (Nat × Nat)}

def Lt2 (a b : Nat × Nat) : Prop := Prod.Lex (· < ·) (· < ·) a b
theorem lt2_wf : WellFounded Lt2 := (Prod.lex Nat.lt_wfRel Nat.lt_wfRel).wf

variable (P tA tW tB c q Anch) in
def MInv (W0 : World) (μ : Nat × Nat) (m : Machine) (t : Trace) : Prop :=
  ∃ (gs : Array Goroutine) (w : World) (sl : Option (Nat × Nat)) (G : GS) (own pdo : Option Nat) (kS : Nat) (kW : Nat → Nat) (φS : Nat) (φW qO : Nat → Nat),
    m = crowd gs w sl ∧ Ctx P tA tW tB c q Anch W0 gs w G own pdo kS kW φS φW qO t ∧ μ = (rank c.W c.n G, Sum c G φS φW qO)

theorem sum_bound {f f' : Nat → Nat} {j k : Nat} (hk : k < j) (h : ∀ a, a < j → a ≠ k → f' a ≤ f a + 1) : sumTo j f' + f k ≤ sumTo j f + j + f' k := by
  have key : ∀ j, (∀ a, a < j → a ≠ k → f' a ≤ f a + 1) → sumTo j f' + (if k < j then f k else 0) ≤ sumTo j f + j + (if k < j then f' k else 0) := by
    intro j
    induction j with
    | zero => intro _; simp [sumTo]
    | succ j ih =>
      intro h
      have := ih fun a ha => h a (by omega)
      simp only [sumTo]
      rcases Nat.lt_trichotomy k j with h1 | h1 | h1
      · have h2 := h j (by omega) (by omega)
        rw [if_pos h1, if_pos h1] at this
        rw [if_pos (by omega), if_pos (by omega)]
        omega
      · subst h1
        rw [if_neg (by omega), if_neg (by omega)] at this
        rw [if_pos (by omega), if_pos (by omega)]
        omega
      · have h2 := h j (by omega) (by omega)
        rw [if_neg (by omega), if_neg (by omega)] at this
        rw [if_neg (by omega), if_neg (by omega)]
        omega
  have := key j h
  rw [if_pos hk, if_pos hk] at this
  exact this
theorem sum_bound' {f f' : Nat → Nat} {j : Nat} (h : ∀ a, a < j → f' a ≤ f a + 1) : sumTo j f' ≤ sumTo j f + j := by
  induction j with
  | zero => simp [sumTo]
  | succ j ih =>
    have := ih fun a ha => h a (by omega)
    have := h j (by omega)
    simp only [sumTo]
    omega

theorem beq0 {i : Nat} (h : i ≠ 0) : (i == 0) = false := by simpa using h

/-- A WORKER's STEP BETWEEN STOPS. -/
theorem stepIdleW (C : Ctx P tA tW tB c q Anch W0 gs w G own pdo kS kW φS φW qO t) (hk : k < G.t0.j) (hg : gs[idW c k]? = some g) (hq : (G.th k).pc ≠ .quit) {m' : Nat} (hφ : φW k = MM c * (m' + 1) + 1)
    (hs : stepG P false g w = .go g' w #[]) (hgo : GoesW P tA tW tB c q (G.th k) (kW k) m' g' w) :
    ∃ m₁ ops μ', runT P (crowd gs w sl) (idW c k) = (.next m₁, ops) ∧ Lt2 μ' (rank c.W c.n G, Sum c G φS φW qO) ∧ MInv P tA tW tB c q Anch W0 μ' m₁ (t ++ ops) := by
  obtain ⟨φS', φW', o1, o2, o3, o4, o5⟩ := C.others (x := g) (x' := g') (w' := w) (s' := G.s) (t' := t) (i := idW c k) (fun _ => RK.refl _ _) (fun _ _ _ => RK.refl _ _) .inl (fun _ _ _ => .inl) (fun _ _ => rfl)
  refine ⟨_, _, (rank c.W c.n G, Sum c G φS' (upd φW' k (MM c * m' + 1)) qO), runT_crowd_go hg (by rw [beq0 idW_ne]; exact hs), Prod.Lex.right _ ?_, _, w, sl, G, own, pdo, kS, kW, φS', upd φW' k (MM c * m' + 1), qO, rfl, ?_, rfl⟩
  · unfold Sum
    have h1 := sum_bound (f := φW) (f' := upd φW' k (MM c * m' + 1)) hk fun a ha hne => by rw [upd_ne _ _ hne]; exact o2 a ha
    rw [upd_same, hφ, Nat.mul_add] at h1
    have h2 : MM c = c.e + c.W + 3 := rfl
    have h3 : G.t0.j ≤ c.W := C.inv.jW
    omega
  · rw [ofEvents_nil]
    refine ⟨by simp [C.size], C.inv, C.shat, C.dS, C.dW, o3 idW_ne, fun a ha => ?_, fun i h1 h2 => o5 i h1 h2 (by unfold idW; omega), C.ti, C.qc, C.sep, C.bxw, C.bxs, C.nf, C.far⟩
    by_cases e : a = k
    · subst e
      rw [upd_same]
      exact ⟨g', getElem?_self hg, .inl ⟨hq, m', rfl, hgo⟩⟩
    · rw [upd_ne _ _ e]
      exact o4 a ha fun x => e (idW_inj x)

theorem block_same {i : Nat} : (gs.map (woken P g { g with status := .blocked } w)).setIfInBounds i { g with status := .blocked } = gs.setIfInBounds i { g with status := .blocked } := by
  have : woken P g { g with status := .blocked } w = id := by funext o; exact woken_by_blocked rfl
  rw [this, Array.map_id]

/-- A WORKER's STOP THAT WAITS. -/
theorem stepBlockW (C : Ctx P tA tW tB c q Anch W0 gs w G own pdo kS kW φS φW qO t) (hk : k < G.t0.j) (hg : gs[idW c k]? = some g) (hq : (G.th k).pc ≠ .quit) {m : Nat} (hφ : φW k = MM c * m + 1) (hw : waitW (G.th k) G.s)
    (hst : GoesW P tA tW tB c q (G.th k) (kW k) 0 g w) (hs : stepG P false g w = .go { g with status := .blocked } w #[]) :
    ∃ m₁ ops μ', runT P (crowd gs w sl) (idW c k) = (.next m₁, ops) ∧ Lt2 μ' (rank c.W c.n G, Sum c G φS φW qO) ∧ MInv P tA tW tB c q Anch W0 μ' m₁ (t ++ ops) := by
  have hlt : idW c k < gs.size := (Array.getElem?_eq_some_iff.1 hg).1
  refine ⟨_, _, (rank c.W c.n G, Sum c G φS (upd φW k 0) qO), runT_crowd_go hg (by rw [beq0 idW_ne]; exact hs), Prod.Lex.right _ ?_, _, w, sl, G, own, pdo, kS, kW, φS, upd φW k 0, qO, rfl, ?_, rfl⟩
  · unfold Sum
    have h1 : sumTo G.t0.j (upd φW k 0) + φW k = sumTo G.t0.j φW + 0 := sumTo_upd φW 0 (fun x => x) hk
    omega
  · rw [ofEvents_nil, block_same]
    refine ⟨by simp [C.size], C.inv, C.shat, C.dS, C.dW, ?_, fun a ha => ?_, fun i h1 h2 => ?_, C.ti, C.qc, C.sep, C.bxw, C.bxs, C.nf, C.far⟩
    · obtain ⟨g0, h1, h2⟩ := C.sitS
      exact ⟨g0, by rw [Array.getElem?_setIfInBounds_ne idW_ne]; exact h1, h2⟩
    · by_cases e : a = k
      · subst e
        rw [upd_same, Array.getElem?_setIfInBounds_self_of_lt hlt]
        exact ⟨_, rfl, .inr (.inl ⟨hq, rfl, hw, g, rfl, hst⟩)⟩
      · rw [upd_ne _ _ e, Array.getElem?_setIfInBounds_ne (fun x => e (idW_inj x).symm)]
        exact C.sitW a ha
    · rw [Array.getElem?_setIfInBounds_ne (by unfold idW; omega)]
      exact C.old i h1 h2

/-- A WORKER THAT IS ONLY LEAVING. -/
theorem stepQuitW (C : Ctx P tA tW tB c q Anch W0 gs w G own pdo kS kW φS φW qO t) (hk : k < G.t0.j) (hg : gs[idW c k]? = some g) (hq : (G.th k).pc = .quit) {n : Nat} (hφ : φW k = MM c * n) (hQ : QuitsD P n (Deaf t (idW c k)) g) (hrun : g.status = .running) :
    ∃ m₁ ops μ', runT P (crowd gs w sl) (idW c k) = (.next m₁, ops) ∧ Lt2 μ' (rank c.W c.n G, Sum c G φS φW qO) ∧ MInv P tA tW tB c q Anch W0 μ' m₁ (t ++ ops) := by
  cases n with
  | zero => rw [hQ.1] at hrun; cases hrun
  | succ n =>
    rcases hQ with ⟨hf, _⟩ | ⟨_, g', es, hmute, hstep, hq'⟩
    · rw [hf] at hrun; cases hrun
    · obtain ⟨φS', φW', o1, o2, o3, o4, o5⟩ := C.others (x := g) (x' := g') (w' := w) (s' := G.s) (t' := t ++ MemOp.ofEvents (idW c k) g.frame.fn g.frame.place es) (i := idW c k) (fun _ => RK.refl _ _) (fun _ _ _ => RK.refl _ _) .inl (fun _ _ _ => .inl) (fun i' hi' => Deaf_other t (Ne.symm hi') _ ofE_g)
      have hmt := C.ti.mute (es := es) (fn := g.frame.fn) (pos := g.frame.place) (i := idW c k) idW_ne (by unfold idW; omega) (fun k' _ e => by rw [← idW_inj e]; exact hq) hmute
      refine ⟨_, _, (rank c.W c.n G, Sum c G φS' (upd φW' k (MM c * n)) qO), runT_crowd_go hg (by rw [beq0 idW_ne]; exact hstep w), Prod.Lex.right _ ?_, _, w, sl, G, own, pdo, kS, kW, φS', upd φW' k (MM c * n), qO, rfl, ?_, rfl⟩
      · unfold Sum
        have h1 := sum_bound (f := φW) (f' := upd φW' k (MM c * n)) hk fun a ha hne => by rw [upd_ne _ _ hne]; exact o2 a ha
        rw [upd_same, hφ, Nat.mul_add] at h1
        have h2 : MM c = c.e + c.W + 3 := rfl
        have h3 : G.t0.j ≤ c.W := C.inv.jW
        omega
      · refine ⟨by simp [C.size], C.inv, C.shat, C.dS, C.dW, o3 idW_ne, fun a ha => ?_, fun i h1 h2 => o5 i h1 h2 (by unfold idW; omega), hmt, C.qc, C.sep, C.bxw, C.bxs, C.nf, C.far⟩
        by_cases e : a = k
        · subst e
          rw [upd_same]
          exact ⟨g', getElem?_self hg, .inr (.inr ⟨hq, n, rfl, by rw [Deaf_own]; exact hq'⟩)⟩
        · rw [upd_ne _ _ e]
          exact o4 a ha fun x => e (idW_inj x)

/-- AN OLD ONE THAT IS ONLY LEAVING. -/
theorem stepOld (C : Ctx P tA tW tB c q Anch W0 gs w G own pdo kS kW φS φW qO t) {i : Nat} (h0 : 0 < i) (hi : i ≤ c.e) (hg : gs[i]? = some g) (hQ : QuitsD P (qO i) (Deaf t i) g) (hrun : g.status = .running) :
    ∃ m₁ ops μ', runT P (crowd gs w sl) i = (.next m₁, ops) ∧ Lt2 μ' (rank c.W c.n G, Sum c G φS φW qO) ∧ MInv P tA tW tB c q Anch W0 μ' m₁ (t ++ ops) := by
  have hne : ∀ k, idW c k ≠ i := fun k => by unfold idW; omega
  cases hn : qO i with
  | zero => rw [hn] at hQ; rw [hQ.1] at hrun; cases hrun
  | succ n =>
    rw [hn] at hQ
    rcases hQ with ⟨hf, _⟩ | ⟨_, g', es, hmute, hstep, hq'⟩
    · rw [hf] at hrun; cases hrun
    · obtain ⟨φS', φW', o1, o2, o3, o4, o5⟩ := C.others (x := g) (x' := g') (w' := w) (s' := G.s) (t' := t ++ MemOp.ofEvents i g.frame.fn g.frame.place es) (i := i) (fun _ => RK.refl _ _) (fun _ _ _ => RK.refl _ _) .inl (fun _ _ _ => .inl) (fun i' hi' => Deaf_other t (Ne.symm hi') _ ofE_g)
      have hmt := C.ti.mute (es := es) (fn := g.frame.fn) (pos := g.frame.place) (i := i) (by omega) (by omega) (fun k' _ e => absurd e.symm (hne k')) hmute
      refine ⟨_, _, (rank c.W c.n G, Sum c G φS' φW' (upd qO i n)), runT_crowd_go hg (by rw [beq0 (by omega)]; exact hstep w), Prod.Lex.right _ ?_, _, w, sl, G, own, pdo, kS, kW, φS', φW', upd qO i n, rfl, ?_, rfl⟩
      · unfold Sum
        have h1 := sum_bound' (f := φW) (f' := φW') o2
        have h2 : MM c = c.e + c.W + 3 := rfl
        have h3 : G.t0.j ≤ c.W := C.inv.jW
        have h4 := sumTo_upd (fun a => qO (a + 1)) n (fun x => MM c * x) (show i - 1 < c.e by omega)
        have h5 : (fun a => MM c * upd (fun a => qO (a + 1)) (i - 1) n a) = fun a => MM c * upd qO i n (a + 1) := by
          funext a
          congr 1
          by_cases e : a = i - 1
          · subst e; rw [upd_same, show i - 1 + 1 = i by omega, upd_same]
          · rw [upd_ne _ _ e, upd_ne _ _ (by omega)]
        rw [h5] at h4
        rw [show i - 1 + 1 = i by omega, hn, Nat.mul_add] at h4
        omega
      · refine ⟨by simp [C.size], C.inv, C.shat, C.dS, C.dW, o3 (by omega), fun a ha => o4 a ha (hne a), fun i' h1 h2 => ?_, hmt, C.qc, C.sep, C.bxw, C.bxs, C.nf, C.far⟩
        by_cases e : i' = i
        · subst e
          rw [upd_same]
          exact ⟨g', getElem?_self hg, by rw [Deaf_own]; exact hq'⟩
        · rw [upd_ne _ _ e]
          exact o5 i' h1 h2 e
end
end Go.Proofs.Ytnlopklbbajlbaa.Sw
