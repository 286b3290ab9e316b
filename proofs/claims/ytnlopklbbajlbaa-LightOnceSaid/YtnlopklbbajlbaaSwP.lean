/- LightOnce: ████ a phase runs to its end, on every tape ████. -/
import Derived.Test.YtnlopklbbajlbaaSwZ
import Derived.Test.YtnlopklbbajlbaaSwNJ
namespace Go.Proofs.Ytnlopklbbajlbaa.Sw
open Go Go.Conc Go.ConcN
open Go.ConcR (stA smA DC0)

section
variable {P : Program} {tA tW tB : TypeId} {c : TC} {q : AP} {Anch : Sh → Goroutine → World → Prop}
variable {w W0 : World} {gs : Array Goroutine} {G : GS} {own pdo : Option Nat} {kS φS : Nat} {kW φW qO : Nat → Nat} {t : Trace}

theorem Ctx.at (C : Ctx P tA tW tB c q Anch W0 gs w G own pdo kS kW φS φW qO t) (d : Nat) : Ctx P tA tW tB c q Anch W0 gs (w.at d) G own pdo kS kW φS φW qO t := by
  refine ⟨C.size, C.inv, C.shat.of_heap rfl, C.dS, C.dW, ?_, fun k hk => ?_, C.old, C.ti, C.qc, C.sep, C.bxw, C.bxs, C.nf, C.far.trans (RK.at _ _ _)⟩
  · obtain ⟨g, h1, h2⟩ := C.sitS
    exact ⟨g, h1, h2.rely (RK.at _ _ _)⟩
  · obtain ⟨g, h1, h2⟩ := C.sitW k hk
    exact ⟨g, h1, h2.rely (RK.at _ _ _)⟩

/-- ████ EVERY STEP OF THE MACHINE. ████ -/
theorem phase_step (hW : 0 < c.W) (hB : 3 * c.W ≤ q.B) (hqW : q.W = c.W) (hqn : q.n = c.n) (hinj : ∀ a b, a < c.n → b < c.n → q.nm a = q.nm b → a = b) (μ : Nat × Nat) (m : Machine) (t : Trace) (h : MInv P tA tW tB c q Anch W0 μ m t) :
    (∃ m' ops μ', stepT P m = (.next m', ops) ∧ Lt2 μ' μ ∧ MInv P tA tW tB c q Anch W0 μ' m' (t ++ ops)) ∨ (∃ m' ops, stepT P m = (.next m', ops) ∧ PEnd P tA tW tB c q Anch W0 m' (t ++ ops)) := by
  obtain ⟨gs, w, sl, G, own, pdo, kS, kW, φS, φW, qO, rfl, C, rfl⟩ := h
  have idx : ∀ i, i < gs.size → i = 0 ∨ (0 < i ∧ i ≤ c.e) ∨ ∃ k, k < G.t0.j ∧ i = idW c k := fun i hi => by
    rcases Nat.eq_zero_or_pos i with h0 | h0
    · exact .inl h0
    · rcases Nat.lt_or_ge c.e i with h1 | h1
      · refine .inr (.inr ⟨i - (c.e + 1), ?_, by unfold idW; omega⟩)
        have := C.size
        omega
      · exact .inr (.inl ⟨h0, h1⟩)
  have haw : ∀ g ∈ gs, awake g := by
    intro g hg
    obtain ⟨i, hi, rfl⟩ := Array.mem_iff_getElem.1 hg
    have hgi : gs[i]? = some gs[i] := Array.getElem?_eq_getElem hi
    rcases idx i hi with rfl | ⟨h0, h1⟩ | ⟨k, hk, rfl⟩
    · obtain ⟨g0, h2, h3⟩ := C.sitS
      rw [hgi] at h2; cases h2
      exact awake_of h3.status
    · obtain ⟨g0, h2, h3⟩ := C.old i h0 h1
      rw [hgi] at h2; cases h2
      exact awake_of (h3.status.elim .inl fun x => .inr (.inr x))
    · obtain ⟨g0, h2, h3⟩ := C.sitW k hk
      rw [hgi] at h2; cases h2
      exact awake_of h3.status
  have hsome : ∃ (i : Nat) (g : Goroutine), gs[i]? = some g ∧ g.status = .running := by
    obtain ⟨g0, h2, h3⟩ := C.sitS
    rcases h3 with ⟨m, _, hg⟩ | ⟨_, hw, _⟩
    · exact ⟨0, g0, h2, hg.running⟩
    · obtain ⟨k, hk, hq, hnw⟩ := C.inv.live hw
      obtain ⟨g1, h4, h5⟩ := C.sitW k hk
      rcases h5 with ⟨_, m, _, hg⟩ | ⟨_, _, hw', _⟩ | ⟨hq', _⟩
      · exact ⟨_, g1, h4, hg.running⟩
      · exact absurd hw' hnw
      · exact absurd hq' hq
  obtain ⟨i, g, d, sl', hg, hrun, hstep⟩ := crowd_pick (P := P) (w := w) (sl := sl) haw hsome
  rw [hstep]
  have C' := C.at d
  have hil := (Array.getElem?_eq_some_iff.1 hg).1
  rcases idx i hil with rfl | ⟨h0, h1⟩ | ⟨k, hk, rfl⟩
  · obtain ⟨g0, h2, h3⟩ := C'.sitS
    rw [hg] at h2; cases h2
    rcases h3 with ⟨m, hφ, hgo⟩ | ⟨_, _, g₀, hg₀, _⟩
    · rcases Goes.cases hgo with hstop | ⟨m', rfl, hst⟩
      · have hS : StpS P tA tW tB c q Anch (AtS P tA tW tB c q Anch kS) G.t0 g (w.at d) := hstop _ (RK.refl _ _)
        by_cases hw : waitS G.t0 G.s
        · exact .inl (stepBlockS C' hg hφ hw hstop ((hS.2.2 G.s C'.shat (C'.inv.fitS hqW)).1 hw))
        · exact stepMoveS hqW hqn C' hg hS hw
      · obtain ⟨g', w', es, hs, ⟨hw', hes⟩, hgo'⟩ := hst _ (RK.refl _ _)
        subst hw' hes
        exact .inl (stepIdleS C' hg hφ hs hgo')
    · rw [hg₀] at hrun; cases hrun
  · obtain ⟨g0, h2, h3⟩ := C'.old i h0 h1
    rw [hg] at h2; cases h2
    exact .inl (stepOld C' h0 h1 hg h3 hrun)
  · obtain ⟨g0, h2, h3⟩ := C'.sitW k hk
    rw [hg] at h2; cases h2
    rcases h3 with ⟨hq, m, hφ, hgo⟩ | ⟨_, _, _, g₀, hg₀, _⟩ | ⟨hq, n, hφ, hQ⟩
    · rcases Goes.cases hgo with hstop | ⟨m', rfl, hst⟩
      · have hS : StpW P tA tW tB c q (AtW P tA tW tB c q (kW k)) (G.th k) g (w.at d) := hstop _ (RK.refl _ _)
        by_cases hw : waitW (G.th k) G.s
        · exact .inl (stepBlockW C' hk hg hq hφ hw hstop ((hS.2.2.2 G.s C'.shat (C'.inv.fitW hB (by omega) hqW hqn hk)).1 hw))
        · exact .inl (stepMoveW hW hB hqW hqn hinj C' hk hg hq hS hw)
      · obtain ⟨g', w', es, hs, ⟨hw', hes⟩, hgo'⟩ := hst _ (RK.refl _ _)
        subst hw' hes
        exact .inl (stepIdleW C' hk hg hq hφ hs hgo')
    · rw [hg₀] at hrun; cases hrun
    · exact .inl (stepQuitW C' hk hg hq hφ hQ hrun)

/-- ████ A PHASE RUNS TO ITS END, ON EVERY TAPE. ████ -/
theorem phase_runs (hW : 0 < c.W) (hB : 3 * c.W ≤ q.B) (hqW : q.W = c.W) (hqn : q.n = c.n) (hinj : ∀ a b, a < c.n → b < c.n → q.nm a = q.nm b → a = b) :
    ∀ (μ : Nat × Nat) (m : Machine) (t : Trace), MInv P tA tW tB c q Anch W0 μ m t → ∃ N m' t', runNT P N m t = (.next m', t') ∧ PEnd P tA tW tB c q Anch W0 m' t' := by
  intro μ
  induction μ using lt2_wf.induction with
  | _ μ ih =>
    intro m t h
    rcases phase_step hW hB hqW hqn hinj μ m t h with ⟨m', ops, μ', h1, h2, h3⟩ | ⟨m', ops, h1, h2⟩
    · obtain ⟨N, m'', t'', h4, h5⟩ := ih μ' h2 m' (t ++ ops) h3
      exact ⟨N + 1, m'', t'', by simp only [runNT, h1]; exact h4, h5⟩
    · exact ⟨1, m', t ++ ops, by simp only [runNT, h1], h2⟩
end
end Go.Proofs.Ytnlopklbbajlbaa.Sw

namespace Go.Proofs.Ytnlopklbbajlbaa.Sw
open Go Go.Conc Go.ConcN
open Go.ConcR (stA smA DC0)

/-- What is shared, at a phase's beginning: nobody holds or waits; nothing is answered yet. -/
structure Sh0 (S0 : List ByteArray) (M0 : Option Nat) (s : Sh) : Prop where
  mo : s.mo = ⟨MuW.nil, 0⟩
  ml : s.ml = ⟨MuW.nil, 0⟩
  st : (s.done = false ∧ s.st = 0 ∧ M0 = none) ∨ (s.done = true ∧ s.st = 2 ∧ M0 = some s.mp)
  con : s.con = S0
  nodup : S0.Nodup
  num : s.num = S0.length
  wv : s.wv = 0
  ww : s.ww = 0
  ws : s.ws = 0
  fr : ∀ i, s.fr i = false
def st00 : St := ⟨.sb, 0, 0, 0⟩
def th00 : Nat → Wk := fun _ => ⟨.quit, 0, false, 0, MuW.nil, false, false, 0, false, 0, 0⟩

section
variable {P : Program} {tA tW tB : TypeId} {c : TC} {q : AP} {Anch : Sh → Goroutine → World → Prop}
variable {w : World} {gs : Array Goroutine} {a : Goroutine} {s : Sh} {sl : Option (Nat × Nat)} {t : Trace} {qq : Nat → Nat}

theorem Sh0.mx (h : Sh0 q.S0 c.M0 s) (b : Bool) : s.mx b = ⟨MuW.nil, 0⟩ := by cases b; exact h.ml; exact h.mo
theorem inv0 (h : Sh0 q.S0 c.M0 s) (hW : 0 < c.W) : Inv c.W c.n q.B q.nm q.S0 ⟨st00, th00, s⟩ := by
  refine ⟨Nat.zero_le _, fun b => ?_, fun k hk => absurd hk (Nat.not_lt_zero _), ⟨fun k hk => absurd hk (Nat.not_lt_zero _), fun hd => ?_, fun hd => ?_⟩, ⟨fun k hk => absurd hk (Nat.not_lt_zero _), fun k hk => absurd hk (Nat.not_lt_zero _), ?_, fun x => ?_, ?_, fun i _ => ?_⟩, ?_⟩
  · have e := h.mx (q := q) (c := c) b
    constructor
    · rw [e]; rfl
    · intro _; rw [e]; exact ⟨rfl, rfl, rfl, fun x => absurd x (Nat.not_lt_zero _)⟩
    · intro hs; rw [e] at hs; cases hs
  · rcases h.st with h1 | h1
    · exact .inl h1.2.1
    · rw [h1.1] at hd; cases hd
  · rcases h.st with h1 | h1
    · rw [h1.1] at hd; cases hd
    · exact h1.2.1
  · show s.con.Nodup; rw [h.con]; exact h.nodup
  · show x ∈ s.con ↔ _
    rw [h.con]
    exact ⟨.inl, fun hx => hx.elim id fun ⟨i, _, h2, _⟩ => absurd h2 (Nat.not_lt_zero _)⟩
  · show s.num = s.con.length + 0
    rw [h.con, h.num]; rfl
  · show s.fr i = true ↔ _
    rw [h.fr]
    exact ⟨fun x => (by cases x), fun x => absurd x.1 (Nat.not_lt_zero _)⟩
  · exact ⟨hW, h.wv, h.ww, h.ws, rfl, rfl⟩

theorem ti0 (hp : Past c.Shun w.heap.size t) (hL : Leavers P t gs qq) (hsz : gs.size = c.e + 1) (hp0 : c.p0 = t.size) (h1 : ¬ c.Shun (.cell (seA c))) (h2 : ∀ m, ¬ c.Shun (.obj m)) (h3 : ∀ k, ¬ c.Shun (FcL c k)) :
    TI c ⟨st00, th00, s⟩ none none w.heap.size t := by
  have z0 : ∀ g, Sd c 0 g → g = 0 := fun g hg => by rcases hg with hg | hg; exact hg; omega
  have kn : ∀ i x, touchAt t i = some x → x.loc.isMemory = true → ¬ c.Shun x.loc → Knows t 0 i := fun i x hx hm hs => (hp.known i x hx hm).resolve_right fun y => hs y.1
  have mcell : ∀ {l : Loc} {ad : Addr}, l = .cell ad → l.isMemory = true := fun e => by rw [e]; rfl
  refine ⟨⟨hp.clean, fun i op hpi hi => ?_, fun i x hx hA => ?_, fun i x hx hR hw g hg => ?_, fun g b hg hb => ?_, fun k hk i x hx e => ?_, fun l hl i x hx e => ?_, fun pd hpd => (by cases hpd), fun k x hk hx => ?_, fun i x hx hm => ?_, fun i g hg hne _ hc => ?_, by omega⟩,
    fun k hk => absurd hk (Nat.not_lt_zero _), fun i hi => (by cases hi), fun k hk => absurd hk (Nat.not_lt_zero _), fun _ => rfl, fun k hk => absurd hk (Nat.not_lt_zero _), hp.hears, fun k hk => absurd hk (Nat.not_lt_zero _), hp.seen, fun i hi => hL.above i (by simp only [st00] at hi; omega)⟩
  · have := lt_size_of_getElem? hi; omega
  · obtain ⟨ad, e, _⟩ := hA
    rcases hp.known i x hx (mcell e) with h4 | h4
    · exact .inr (.inr fun g hg => by rw [z0 g hg]; exact h4)
    · exact .inl h4.2
  · rw [z0 g hg]
    obtain ⟨ad, e, _, _, _, _, hs⟩ := hR
    exact kn i x hx (mcell e) hs
  · rw [z0 g hg] at hb
    simp [bxOf, bxS, st00] at hb
  · have : ow c 0 k = 0 := by unfold ow; rw [if_neg (Nat.not_lt_zero _)]
    rw [show ow c (GS.mk st00 th00 s).t0.j k = 0 from this]
    exact kn i x hx (by rw [e]; rfl) (by rw [e]; exact h3 k)
  · left
    intro g hg
    rw [z0 g hg]
    rcases hl with hl | ⟨m, _, hl⟩
    · exact kn i x hx (by rw [e, hl]; rfl) (by rw [e, hl]; exact h1)
    · exact kn i x hx (by rw [e, hl]; rfl) (by rw [e, hl]; exact h2 m)
  · have := lt_of_act? hx; omega
  · rcases hp.known i x hx hm with h4 | h4
    · exact .inl h4
    · exact .inr (.inl h4)
  · exact hp.over i g hg hne hc

/-- ████ A PHASE: from frame to frame, on every tape. ████ -/
theorem phase (hW : 0 < c.W) (hB : 3 * c.W ≤ q.B) (hqW : q.W = c.W) (hqn : q.n = c.n) (hinj : ∀ a b, a < c.n → b < c.n → q.nm a = q.nm b → a = b)
    (h : Sh0 q.S0 c.M0 s) (hs : ShAt tA tW tB c w s) (hg : gs[0]? = some a) (hsz : gs.size = c.e + 1) (hL : Leavers P t gs qq) (hp : Past c.Shun w.heap.size t) (hp0 : c.p0 = t.size)
    (h1 : ¬ c.Shun (.cell (seA c))) (h2 : ∀ m, ¬ c.Shun (.obj m)) (h3 : ∀ k, ¬ c.Shun (FcL c k)) (hgo : ∀ k, ∃ m, GoesS P tA tW tB c q Anch st00 k m a w) :
    ∃ N m' t', runNT P N (crowd gs w sl) t = (.next m', t') ∧ PEnd P tA tW tB c q Anch w m' t' := by
  obtain ⟨m, hm⟩ := hgo (rank c.W c.n ⟨st00, th00, s⟩)
  refine phase_runs (W0 := w) hW hB hqW hqn hinj _ (crowd gs w sl) t ⟨gs, w, sl, ⟨st00, th00, s⟩, none, none, rank c.W c.n ⟨st00, th00, s⟩, fun _ => 0, MM c * m + 1, fun _ => 0, qq, rfl, ?_, rfl⟩
  refine ⟨hsz, inv0 h hW, hs, Nat.le_refl _, fun k hk => absurd hk (Nat.not_lt_zero _), ⟨a, hg, .inl ⟨m, rfl, hm⟩⟩, fun k hk => absurd hk (Nat.not_lt_zero _), fun i hi he => ?_, ti0 hp hL hsz hp0 h1 h2 h3, fun k hk => absurd hk (Nat.not_lt_zero _), ⟨fun g b hg hb => ?_, fun g g' b hg hg' hb hb' => ?_⟩, fun k hk => absurd hk (Nat.not_lt_zero _), fun b hb => (by cases hb), by simp [st00], RK.refl _ _⟩
  · have : i < gs.size := by omega
    exact ⟨gs[i], Array.getElem?_eq_getElem this, hL.old i _ hi (Array.getElem?_eq_getElem this)⟩
  · rcases hg with rfl | hg
    · simp [bxOf, bxS, st00] at hb
    · simp only [st00] at hg; omega
  · rcases hg with rfl | hg
    · simp [bxOf, bxS, st00] at hb
    · simp only [st00] at hg; omega
end
end Go.Proofs.Ytnlopklbbajlbaa.Sw

set_option linter.unusedVariables false
set_option linter.unusedSimpArgs false
set_option maxRecDepth 100000
namespace Go.Proofs.Ytnlopklbbajlbaa.Sw
open Go Go.Conc Go.ConcN
open Go.ConcM (OsLater)
open Go.ConcN (sumTo)

/-- What is shared, nobody being in. -/
def sh0 (S : List ByteArray) (M : Option Nat) : Sh := ⟨⟨MuW.nil, 0⟩, ⟨MuW.nil, 0⟩, M.isSome, if M.isSome then 2 else 0, M.getD 0, S, S.length, 0, 0, 0, fun _ => false⟩
theorem enc_nil' : enc MuW.nil = 0 := rfl
theorem sumTo_zero {f : Nat → Nat} {j : Nat} (h : ∀ k, k < j → f k = 0) : sumTo j f = 0 := by
  have := Go.ConcN.sumTo_le (f := f) (c := 0) (j := j) (fun i hi => Nat.le_of_eq (h i hi))
  omega
theorem seV_sh0 (S : List ByteArray) (M : Option Nat) : seV (sh0 S M) = .map M := by
  cases M <;> simp [seV, sh0]
/-- .. it is what the blocks hold. -/
theorem shAt0 {c : TC} {w : World} {S : List ByteArray} {M : Option Nat} (hA : AlAt w c.A S M) (hM : c.M0 = M) (hlow : c.Low = w.heap.size) (hg : w.heap[c.Wg]? = some (.cells #[.int .u64 0, .int .u32 0] 55)) (hf : w.heap[c.F]? = some (.cells (madeCells (Value.bool false).cells c.n) 4)) :
    ShAt 46 55 4 c w (sh0 S M) := by
  obtain ⟨h1, h2, h3, h4⟩ := hA
  refine ⟨?_, ?_, ⟨_, hf, by simp [madeCells, Value.cells], fun i hi => by simp [madeCells, Value.cells, hi, sh0, Nat.mod_one]⟩, fun h => ?_, Nat.le_of_eq hlow, fun h => ?_, fun h => ?_⟩
  · rw [seV_sh0, h1]
    cases M <;> simp [sh0, enc_nil']
  · rw [hg]; simp [sh0]
  · rcases hm : M with _ | mp
    · simp [sh0, hm] at h
    · obtain ⟨es, ck, e1, e2⟩ := h4 mp hm
      exact ⟨(Array.getElem?_eq_some_iff.1 e1).1, es, ck, e1, e2⟩
  · rcases hm : M with _ | mp
    · simp [sh0, hm] at h
    · left; rw [hM, hm]; rfl
  · rcases hm : M with _ | mp
    · exact ⟨h3 hm, hM.trans hm⟩
    · simp [sh0, hm] at h
theorem sh00 {c : TC} {S : List ByteArray} {M : Option Nat} (hM : c.M0 = M) (hS : S.Nodup) : Sh0 S c.M0 (sh0 S M) := by
  refine ⟨rfl, rfl, ?_, rfl, hS, rfl, rfl, rfl, rfl, fun _ => rfl⟩
  rw [hM]
  rcases M with _ | mp
  · exact .inl ⟨rfl, rfl, rfl⟩
  · exact .inr ⟨rfl, rfl, rfl⟩
theorem mxOK_nil {x : Mx} {th : Nat → Wk} {j : Nat} {b : Bool} (h : MxOK x (cnt th j b)) (hq : ∀ k, k < j → (th k).pc = .quit) : x = ⟨MuW.nil, 0⟩ := by
  have z : ∀ q, q ≠ 0 → cnt th j b q = 0 := fun q hq0 => by
    unfold cnt
    apply sumTo_zero
    intro k hk
    unfold ind rb role
    rw [hq k hk]
    simp [Ne.symm hq0]
  obtain ⟨h1, h2, h3⟩ := h
  rw [z 1 (by decide)] at h1
  rw [z 2 (by decide), z 3 (by decide), z 4 (by decide), z 5 (by decide), z 6 (by decide), z 7 (by decide)] at h2
  rw [z 1 (by decide), z 2 (by decide), z 3 (by decide), z 4 (by decide), z 5 (by decide), z 6 (by decide)] at h3
  obtain ⟨⟨l, k, s, n⟩, sem⟩ := x
  cases s with
  | true =>
    obtain ⟨_, _, _, e, e'⟩ := h3 rfl
    simp at e e'
    omega
  | false =>
    obtain ⟨e1, _, e3, _⟩ := h2 rfl
    simp at e1 e3 h1
    obtain ⟨rfl, rfl⟩ : n = 0 ∧ sem = 0 := by omega
    have : k = false := by cases k <;> simp_all
    have : l = false := by cases l <;> simp_all
    subst_vars
    rfl
/-- All have done their work: nobody is in. -/
theorem alAt_end {c : TC} {q : AP} {w : World} {s : Sh} {th : Nat → Wk} (hs : ShAt 46 55 4 c w s) (hC : Cont c.W c.n q.nm q.S0 th c.W s) (hq : ∀ k, k < c.W → (th k).pc = .quit) (hO : Onc th c.W s) (hM : MB th c.W s) :
    AlAt w c.A s.con (if s.done then some s.mp else none) := by
  have e1 := mxOK_nil (hM true) hq
  have e2 := mxOK_nil (hM false) hq
  have e3 : s.num = s.con.length := by
    have := hC.num
    rw [this, sumTo_zero (fun k hk => by unfold ind adding; rw [hq k hk]; simp)]
    rfl
  have e4 : s.done = false → s.st = 0 := fun hd => by
    rcases hO.no hd with h | ⟨k, hk, h⟩
    · exact h
    · rw [hq k hk] at h; simp at h
  have e5 := hO.yes
  have e6 : seV s = .map (if s.done then some s.mp else none) := by
    unfold seV
    rcases hd : s.done with _ | _
    · rw [e4 hd]; rfl
    · rw [e5 hd]; rfl
  refine ⟨?_, hC.nodup, fun h => ?_, fun mp h => ?_⟩
  · rw [hs.a, e6]
    change s.mo = _ at e1
    change s.ml = _ at e2
    rw [e1, e2, e3]
    rcases hd : s.done with _ | _ <;> simp [enc_nil']
  · rcases hd : s.done with _ | _
    · exact (hs.z (e4 hd)).1
    · rw [hd] at h; cases h
  · rcases hd : s.done with _ | _
    · rw [hd] at h; cases h
    · rw [hd] at h
      obtain rfl := Option.some.inj h
      exact (hs.m (by rw [e5 hd]; decide)).2
end Go.Proofs.Ytnlopklbbajlbaa.Sw
