/- LightOnce: the starter's stops; WaitGroup.Add(1), WaitGroup.Wait(). -/
import Derived.Test.YtnlopklbbajlbaaSwNA
import Derived.Test.YtnlopklbbajlbaaSwNL
set_option linter.unusedVariables false
set_option linter.unusedSimpArgs false
set_option maxRecDepth 100000
namespace Go.Proofs.Ytnlopklbbajlbaa.Sw
open Go Go.Conc Go.ConcN Go.RowKit
open Go.ConcR (DC0 stA smA)
noncomputable def body8 : Code := Try.f8.body.getD .skip
noncomputable def body12 : Code := Try.f12.body.getD .skip

theorem u68 : Try.prog.underlying 68 = some (.pointer 32) := by kernel_rfl
theorem z32 : (Try.prog.info? 32).map (fun i => decide (i.size = 0)) = some false := by kernel_rfl
theorem sUnwindEnable {main : Bool} {b : Frame} {ts : Array Value} {ds : List Deferred} {todo : List Item} {cs : List Frame} {w : World} :
    stepG Try.prog main (G { b.at ⟨ts, dcall 16 #[] :: ds⟩ todo with mode := .returning } cs) w = .go (G { b.at ⟨ts, ds⟩ todo with mode := .returning } cs) w #[mkE .enable] :=
  stepG_unwind_entry (a := ⟨ts, dcall 16 #[] :: ds⟩) (v := .tuple #[]) rfl Try.func16 x16_n x16_b x16_x x16_f (by simp [Go.Extern.Race.none_]) (by simp [mkE]) (by
    intro x hx; simp [mkE] at hx; subst hx; exact ⟨rfl, fun g h => by simp at h⟩)
theorem sRead {main : Bool} {b : Frame} {a : Act} {k : List Item} {cs : List Frame} {w : World} {ops : Array Oper} {i : Nat} {rest : List Nat} {o : Oper} {xs : Array Operand} {ats : Array TypeId} {ad : Addr} (ho : ops[i]? = some o) (hw : Region.wanted o (yielded ops a.tmps) = true) (hk : b.kind ≠ .early) (hop : o.op = .call { callee := .value (.func 22), args := xs, argTypes := ats }) (hx : (xs.map a.eval)[0]? = some (.pointer (some ad))) :
    stepG Try.prog main (G (b.at a (.inRegion ops (i :: rest) :: k)) cs) w = .go (G (b.at (a.put o.dst (.tuple #[])) (.inRegion ops rest :: k)) cs) w #[mkE (.read ad)] := stepG_markAt .read (by simp) ho hw hk hop Try.func22 x22_n x22_b x22_x x22_f hx
theorem sWrite {main : Bool} {b : Frame} {a : Act} {k : List Item} {cs : List Frame} {w : World} {ops : Array Oper} {i : Nat} {rest : List Nat} {o : Oper} {xs : Array Operand} {ats : Array TypeId} {ad : Addr} (ho : ops[i]? = some o) (hw : Region.wanted o (yielded ops a.tmps) = true) (hk : b.kind ≠ .early) (hop : o.op = .call { callee := .value (.func 35), args := xs, argTypes := ats }) (hx : (xs.map a.eval)[0]? = some (.pointer (some ad))) :
    stepG Try.prog main (G (b.at a (.inRegion ops (i :: rest) :: k)) cs) w = .go (G (b.at (a.put o.dst (.tuple #[])) (.inRegion ops rest :: k)) cs) w #[mkE (.write ad)] := stepG_markAt .write (by simp) ho hw hk hop Try.func35 x35_n x35_b x35_x x35_f hx

/-- WHAT IS KNOWN of the starter's world. -/
structure KS (c : TC) (o : Option Nat) (p : World → Prop) : Prop where
  st : Kept (RK 46 55 4 c o) p
  live : ∀ w, p w → ∃ s, ShAt 46 55 4 c w s
section
variable (c : TC) (q : AP) (Anch : Sh → Goroutine → World → Prop)
def SU (o : Option Nat) (p : World → Prop) (k : Nat) (t : St) (g : Goroutine) : Prop :=
  bxS t = o ∧ ∀ j, j < k → GU Try.prog true (RK 46 55 4 c o) (AtS Try.prog 46 55 4 c q Anch (j + 1) t) p g
end
section
variable {c : TC} {q : AP} {Anch : Sh → Goroutine → World → Prop} {o o' : Option Nat} {p p' : World → Prop} {k : Nat} {t : St} {g : Goroutine}
theorem SU.mono {j : Nat} (h : SU c q Anch o p k t g) (e : j ≤ k) : SU c q Anch o p j t g := ⟨h.1, fun i hi => h.2 i (by omega)⟩
theorem SU.weaken (h : SU c q Anch o p k t g) (hp : ∀ w, p' w → p w) : SU c q Anch o p' k t g := by
  refine ⟨h.1, fun j hj => ?_⟩
  obtain ⟨m, hm⟩ := h.2 j hj
  exact ⟨m, fun w hw => hm w (hp w hw)⟩
theorem afterS {j : Nat} {s : Sh} {w : World} (hf : t.pc ≠ .fin) (hw : p w) (h : SU c q Anch o p j t g) : AfterS Try.prog 46 55 4 c Anch (AtS Try.prog 46 55 4 c q Anch j) t s g w := by
  unfold AfterS
  rw [if_neg hf]
  cases j with
  | zero => exact ⟨0, fun _ _ => trivial⟩
  | succ j =>
    obtain ⟨m, hm⟩ := h.2 j (by omega)
    exact ⟨m, by rw [h.1]; exact hm w hw⟩
/-- ████ A STOP OF THE STARTER's. ████ -/
theorem stopS (K : KS c o p) {j : Nat} (hb : bxS t = o) (hst : g.status = .running) (hof : g.offers = none) (hpc : t.pc ≠ .sg ∧ t.pc ≠ .sb ∧ t.pc ≠ .w3)
    (h : ∀ w s, p w → ShAt 46 55 4 c w s → FitS q t s → ∃ t' s' g' w' es o' p', StepS q.W t s t' s' ∧ stepG Try.prog true g w = .go g' w' es ∧ ShAt 46 55 4 c w' s' ∧ Eff c s (bxS t) w w' ∧ EvS c t es ∧ w'.heap.size = w.heap.size ∧ t'.pc ≠ .fin ∧ p' w' ∧ SU c q Anch o' p' j t' g') :
    GU Try.prog true (RK 46 55 4 c o) (AtS Try.prog 46 55 4 c q Anch (j + 1) t) p g := by
  refine GU.stop K.st fun w hw => ?_
  refine ⟨hst, hof, fun s hs hf => ⟨fun hwt => absurd hwt.1 hpc.2.2, fun _ => ?_⟩⟩
  obtain ⟨t', s', g', w', es, o', p', h1, h2, h3, h4, h5, h6, h7, h8, h9⟩ := h w s hw hs hf
  rw [if_neg hpc.1]
  refine ⟨t', s', g', w', es, h1, h2, h3, h4, h5, ?_, afterS h7 h8 h9⟩
  rw [if_neg hpc.2.1]
  exact h6
/-- THE LAST. -/
theorem stopS_aq (K : KS c o p) {j : Nat} (hb : bxS t = o) (hst : g.status = .running) (hof : g.offers = none) (hpc : t.pc = .aq)
    (h : ∀ w s, p w → ShAt 46 55 4 c w s → FitS q t s → ∃ g', stepG Try.prog true g w = .go g' w #[mkE (.acquire (stA c.Wg))] ∧ Anch s g' w) :
    GU Try.prog true (RK 46 55 4 c o) (AtS Try.prog 46 55 4 c q Anch (j + 1) t) p g := by
  refine GU.stop K.st fun w hw => ?_
  refine ⟨hst, hof, fun s hs hf => ⟨fun hwt => absurd (hpc.symm.trans hwt.1) (by simp), fun _ => ?_⟩⟩
  obtain ⟨g', h2, h3⟩ := h w s hw hs hf
  rw [if_neg (by rw [hpc]; simp)]
  refine ⟨{ t with pc := .fin }, s, g', w, _, ?_, h2, hs, Eff.refl _ _ _, ?_, ?_, ?_⟩
  · simp [StepS, hpc]
  · simp [EvS, hpc]
  · rw [if_neg (by rw [hpc]; simp)]
  · unfold AfterS
    rw [if_pos rfl]
    exact h3
/-- IT WAITS FOR THE GROUP's TOKEN, or takes it. -/
theorem stopS_sem (K : KS c o p) {j : Nat} (hb : bxS t = o) (hst : g.status = .running) (hof : g.offers = none) (hpc : t.pc = .w3)
    (hwt : ∀ w s, p w → ShAt 46 55 4 c w s → s.ws = 0 → stepG Try.prog true g w = .go { g with status := .blocked } w #[])
    (h : ∀ w s, p w → ShAt 46 55 4 c w s → FitS q t s → s.ws ≠ 0 → ∃ t' s' g' w' es o' p', StepS q.W t s t' s' ∧ stepG Try.prog true g w = .go g' w' es ∧ ShAt 46 55 4 c w' s' ∧ Eff c s (bxS t) w w' ∧ EvS c t es ∧ w'.heap.size = w.heap.size ∧ t'.pc ≠ .fin ∧ p' w' ∧ SU c q Anch o' p' j t' g') :
    GU Try.prog true (RK 46 55 4 c o) (AtS Try.prog 46 55 4 c q Anch (j + 1) t) p g := by
  refine GU.stop K.st fun w hw => ?_
  refine ⟨hst, hof, fun s hs hf => ⟨fun x => hwt w s hw hs x.2, fun x => ?_⟩⟩
  obtain ⟨t', s', g', w', es, o', p', h1, h2, h3, h4, h5, h6, h7, h8, h9⟩ := h w s hw hs hf (fun e => x ⟨hpc, e⟩)
  rw [if_neg (by rw [hpc]; simp)]
  refine ⟨t', s', g', w', es, h1, h2, h3, h4, h5, ?_, afterS h7 h8 h9⟩
  rw [if_neg (by rw [hpc]; simp)]
  exact h6
/-- ITS OWN NEW BLOCK. -/
theorem stopS_sb (K : KS c o p) {j : Nat} (hb : bxS t = o) (hst : g.status = .running) (hof : g.offers = none) (hpc : t.pc = .sb)
    (h : ∀ w s, p w → ShAt 46 55 4 c w s → ∃ g' w' p', stepG Try.prog true g w = .go g' w' #[] ∧ ShAt 46 55 4 c w' s ∧ Eff c s (bxS t) w w' ∧ w'.heap.size = w.heap.size + 1 ∧ p' w' ∧ SU c q Anch (some w.heap.size) p' j { t with pc := .so, bx := w.heap.size } g') :
    GU Try.prog true (RK 46 55 4 c o) (AtS Try.prog 46 55 4 c q Anch (j + 1) t) p g := by
  refine GU.stop K.st fun w hw => ?_
  refine ⟨hst, hof, fun s hs hf => ⟨fun hwt => absurd (hpc.symm.trans hwt.1) (by simp), fun _ => ?_⟩⟩
  obtain ⟨g', w', p', h2, h3, h4, h6, h8, h9⟩ := h w s hw hs
  rw [if_neg (by rw [hpc]; simp)]
  refine ⟨{ t with pc := .so, bx := w.heap.size }, s, g', w', #[], ?_, h2, h3, h4, ?_, ?_, afterS (by simp) h8 h9⟩
  · rw [StepS, hpc]; exact ⟨⟨_, rfl⟩, rfl⟩
  · simp [EvS, hpc]
  · rw [if_pos hpc]; exact ⟨h6, rfl⟩
/-- IT STARTS A WORKER. -/
theorem stopS_sg (K : KS c o p) {j : Nat} (hb : bxS t = o) (hst : g.status = .running) (hof : g.offers = none) (hpc : t.pc = .sg)
    (h : ∀ w s, p w → ShAt 46 55 4 c w s → ∃ T g' child p', New q.n t.j T ∧ T.c ≤ 16 ∧ T.bx = t.bx ∧ stepG Try.prog true g w = .spawn g' child w #[] ∧ (∀ k, ∃ m, GoesW Try.prog 46 55 4 c q T k m child w) ∧ p' w ∧ SU c q Anch none p' j { t with pc := if t.j + 1 < q.W then .sb else .kd, j := t.j + 1 } g') :
    GU Try.prog true (RK 46 55 4 c o) (AtS Try.prog 46 55 4 c q Anch (j + 1) t) p g := by
  refine GU.stop K.st fun w hw => ?_
  refine ⟨hst, hof, fun s hs hf => ⟨fun hwt => absurd (hpc.symm.trans hwt.1) (by simp), fun _ => ?_⟩⟩
  obtain ⟨T, g', child, p', h1, h2, h3, h4, h5, h6, h7⟩ := h w s hw hs
  rw [if_pos hpc]
  exact ⟨T, g', child, h1, h2, h3, h4, h5, afterS (by simp only; split <;> simp) h6 h7⟩
/-- It keeps what it knows through its own step. -/
theorem KS.eff (K : KS c none p) {w w' : World} {s s' : Sh} (hw : p w) (hs : ShAt 46 55 4 c w s) (e : Eff c s none w w') (hs' : ShAt 46 55 4 c w' s') (hm : s.st = 2 → s'.st = 2 ∧ s'.mp = s.mp) : p w' :=
  K.st w w' hw (RK.of_eff hs e hs' (fun b hb => by cases hb) (fun _ h => by cases h) hm)
end

section
variable {c : TC} {q : AP} {Anch : Sh → Goroutine → World → Prop} {p : World → Prop} {cs : List Frame} {b₁ : Frame} {a₁ : Act} {ops₁ : Array Oper} {i₁ : Nat} {rest₁ : List Nat} {k₁ : List Item}
set_option maxHeartbeats 16000000 in
/-- ████ wg.Add(1) ████ -/
theorem addL {z : Nat} (K : KS c (some z) p) (hW : q.W ≤ 16) (hkeep : ∀ w w' s s', p w → ShAt 46 55 4 c w s → ShAt 46 55 4 c w' s' → Eff c s none w w' → (s.st = 2 → s'.st = 2 ∧ s'.mp = s.mp) → p w') {k jj vs : Nat}
    (next : SU c q Anch (some z) p k ⟨.sg, jj, vs, z⟩ (G (b₁.at (a₁.put ((ops₁[i₁]?).bind (·.dst)) (.tuple #[])) (.inRegion ops₁ rest₁ :: k₁)) cs)) :
    SU c q Anch (some z) p k ⟨.sd, jj, vs, z⟩ (G ((Go.Conc.base 8).at ⟨#[.pointer (some ⟨c.Wg, 0, none⟩), .int .i64 1, undef, undef, undef, undef, undef, undef, undef, undef, undef, undef, undef, undef, undef, undef, undef, undef, undef, undef, undef, undef, undef, undef, undef, undef, undef, undef, undef, undef, undef, undef, undef, undef, undef, undef, undef, undef, undef, undef, undef, undef, undef, undef, undef, undef, undef, undef, undef, undef, undef, undef, undef, undef, undef, undef, undef, undef, undef, undef, undef, undef, undef, undef, undef, undef, undef, undef, undef, undef, undef, undef, undef, undef, undef, undef, undef, undef, undef, undef, undef, undef, undef, undef, undef, undef, undef, undef, undef, undef, undef, undef, undef, undef, undef, undef, undef, undef, undef, undef, undef, undef, undef, undef, undef, undef, undef, undef, undef, undef, undef, undef, undef, undef, undef, undef, undef], []⟩ [.code body8]) (b₁.at a₁ (.inRegion ops₁ (i₁ :: rest₁) :: k₁) :: cs)) := by
  have hp := K.st
  have hcg : ∀ w, p w → ∃ x : Int, w.cell? ⟨c.Wg, 1, none⟩ = some (.int .u32 x) := fun w hw => by
    obtain ⟨s, hs⟩ := K.live w hw
    exact ⟨_, hs.cSm⟩
  refine ⟨rfl, fun j hj => ?_⟩
  simp only [body8, Try.f8, Option.getD_some, Array.replicate_succ, Array.replicate_zero, List.push_toArray, List.append_toArray, List.nil_append, List.cons_append]
  (refine GU.ctl hp rfl (fun _ => stepG_seq) ?_; refine GU.ctl hp rfl (fun _ => stepG_cond (t := true) rfl) ?_; simp only [if_true, if_false, Bool.false_eq_true, ↓reduceIte]; (iterate 2 (refine GU.ctl hp rfl (fun _ => stepG_seq) ?_)); refine GU.ctl hp rfl (fun _ => stepG_region) ?_; simp only [List.size_toArray, List.length_cons, List.length_nil, Nat.reduceAdd, Nat.zero_add, List.range, List.range.loop]; (iterate 2 (refine GU.value hp _ rfl rfl (by k_ne) (fun _ => by go_simp <;> rfl) (fun _ => by simp [go_sem, *]) ?_; walk_nrm)); refine GU.ctl hp rfl (fun _ => stepG_region_end) ?_; refine GU.ctl hp rfl (fun _ => stepG_cond (t := false) rfl) ?_; simp only [if_true, if_false, Bool.false_eq_true, ↓reduceIte]; refine GU.ctl hp rfl (fun _ => stepG_skip) ?_; refine GU.ctl hp rfl (fun _ => stepG_seq) ?_; refine GU.ctl hp rfl (fun _ => stepG_region) ?_; simp only [List.size_toArray, List.length_cons, List.length_nil, Nat.reduceAdd, Nat.zero_add, List.range, List.range.loop])
  -- STOP sd
  refine stopS K rfl rfl rfl (by simp) (fun w s hw hs hf => ⟨⟨.sa, jj, vs, z⟩, s, _, _, _, some z, p, by simp [StepS], sDisable rfl rfl (by k_ne) rfl, hs, Eff.refl _ _ _, by simp [EvS, mkE], rfl, by simp, hw, ?_⟩)
  clear hw hs hf
  refine ⟨rfl, fun j2 hj2 => ?_⟩
  walk_nrm
  (refine GU.ctl hp rfl (fun _ => stepG_region_end) ?_; refine GU.ctl hp rfl (fun _ => stepG_region) ?_; simp only [List.size_toArray, List.length_cons, List.length_nil, Nat.reduceAdd, Nat.zero_add, List.range, List.range.loop])
  (refine GU.ctl hp rfl (fun _ => stepG_defer rfl rfl (by k_ne) rfl) ?_; walk_nrm)
  (refine GU.ctl hp rfl (fun _ => stepG_region_end) ?_; refine GU.ctl hp rfl (fun _ => stepG_seq) ?_; refine GU.ctl hp rfl (fun _ => stepG_region) ?_; simp only [List.size_toArray, List.length_cons, List.length_nil, Nat.reduceAdd, Nat.zero_add, List.range, List.range.loop]; refine GU.value hp _ rfl rfl (by k_ne) (fun _ => by go_simp <;> rfl) (fun _ => by simp [go_sem, *]) ?_; walk_nrm; refine GU.ctl hp rfl (fun _ => stepG_region_end) ?_; (iterate 2 (refine GU.ctl hp rfl (fun _ => stepG_seq) ?_)); refine GU.ctl hp rfl (fun _ => stepG_region) ?_; simp only [List.size_toArray, List.length_cons, List.length_nil, Nat.reduceAdd, Nat.zero_add, List.range, List.range.loop])
  refine GU.entry hp (.bool false) rfl rfl (by k_ne) rfl Try.func17 x17_n x17_b x17_x x17_f ?_
  walk_nrm
  (refine GU.ctl hp rfl (fun _ => stepG_region_end) ?_; refine GU.ctl hp rfl (fun _ => stepG_cond (t := false) rfl) ?_; simp only [if_true, if_false, Bool.false_eq_true, ↓reduceIte]; refine GU.ctl hp rfl (fun _ => stepG_skip) ?_; refine GU.ctl hp rfl (fun _ => stepG_seq) ?_; refine GU.ctl hp rfl (fun _ => stepG_region) ?_; simp only [List.size_toArray, List.length_cons, List.length_nil, Nat.reduceAdd, Nat.zero_add, List.range, List.range.loop]; (iterate 6 (refine GU.value hp _ rfl rfl (by k_ne) (fun _ => by go_simp <;> rfl) (fun _ => by simp [go_sem, *]) ?_; walk_nrm)))
  (refine GU.call hp rfl rfl (by k_ne) rfl Try.func21 nm21 rfl ?_; walk_nrmf Try.f21)
  (refine GU.ctl hp rfl (fun _ => stepG_seq) ?_; refine GU.ctl hp rfl (fun _ => stepG_region) ?_; simp only [List.size_toArray, List.length_cons, List.length_nil, Nat.reduceAdd, Nat.zero_add, List.range, List.range.loop]; refine GU.value hp _ rfl rfl (by k_ne) (fun _ => by go_simp <;> rfl) (fun _ => by simp [go_sem, *]) ?_; walk_nrm; refine GU.ctl hp rfl (fun _ => stepG_region_end) ?_; refine GU.ctl hp rfl (fun _ => stepG_seq) ?_; refine GU.ctl hp rfl (fun _ => stepG_region) ?_; simp only [List.size_toArray, List.length_cons, List.length_nil, Nat.reduceAdd, Nat.zero_add, List.range, List.range.loop]; (iterate 4 (refine GU.value hp _ rfl rfl (by k_ne) (fun _ => by go_simp <;> rfl) (fun _ => by simp [go_sem, *]) ?_; walk_nrm)))
  rw [show IntKind.u64.wrap (IntKind.u64.wrap 1 * 4294967296) = 4294967296 from by decide]
  -- STOP sa
  refine stopS K rfl rfl rfl (by simp) (fun w s hw hs hf => ?_)
  obtain ⟨pp, m2, m4, hpp, hg⟩ := hf
  obtain ⟨g1, g2, g3, g4, g5, g6⟩ : jj < q.W ∧ s.wv = pp ∧ s.ww = 0 ∧ s.ws = 0 ∧ m2 = 0 ∧ m4 = 0 := hg
  have hc : w.cell? (stA c.Wg) = some (.int .u64 (wgE s.wv s.ww)) := hs.cSt
  have hinc := w_inc (a := s.wv) (b := s.ww) (by omega) (by omega)
  have hset : ShAt 46 55 4 c (w.setCell (stA c.Wg) (.int .u64 (wgE (s.wv + 1) s.ww))) { s with wv := s.wv + 1 } := hs.setSt (s.wv + 1) s.ww
  refine ⟨⟨if s.wv = 0 then .sr else .se, jj, vs, z⟩, { s with wv := s.wv + 1 }, _, _, _, some z, p, by simp [StepS], stepG_add_atomic rfl rfl (by k_ne) rfl Try.func39 x39_n x39_b x39_x .u64 x39_f (ad := stA c.Wg) rfl rfl hc (hs.thG _), by rw [hinc]; exact hset, Eff.set _ _ _ _ _ (.inr (.inl rfl)), by simp only [EvS]; exact atm_rw _, (aside_setCell _ _ _).size, by show (if s.wv = 0 then Sc.sr else Sc.se) ≠ .fin; split <;> simp, hkeep w _ s { s with wv := s.wv + 1 } hw hs (by rw [hinc]; exact hset) (Eff.set _ _ _ _ _ (.inr (.inl rfl))) (fun h => ⟨h, rfl⟩), ?_⟩
  rw [hinc, g3]
  have ha : s.wv + 1 < 32 := by omega
  generalize s.wv = v at *
  clear hw hs g2 g3 g4 hc hinc hset
  refine ⟨by show bxS ⟨if v = 0 then .sr else .se, jj, vs, z⟩ = some z; unfold bxS; split <;> simp_all, fun j3 hj3 => ?_⟩
  walk_nrm
  (refine GU.value hp _ rfl rfl (by k_ne) (fun _ => by go_simp <;> rfl) (fun _ => by simp [go_sem, *]) ?_; walk_nrm; refine GU.ctl hp rfl (fun _ => stepG_region_end) ?_; refine GU.ctl hp rfl (fun _ => stepG_ret') ?_)
  (refine GU.leave1 hp rfl rfl Try.func21 rfl ?_; walk_nrm)
  (refine GU.value hp _ rfl rfl (by k_ne) (fun _ => by go_simp <;> rfl) (fun _ => by simp [go_sem, *]) ?_; walk_nrm; refine GU.ctl hp rfl (fun _ => stepG_region_end) ?_; (iterate 2 (refine GU.ctl hp rfl (fun _ => stepG_seq) ?_)); refine GU.ctl hp rfl (fun _ => stepG_region) ?_; simp only [List.size_toArray, List.length_cons, List.length_nil, Nat.reduceAdd, Nat.zero_add, List.range, List.range.loop]; (iterate 4 (refine GU.value hp _ rfl rfl (by k_ne) (fun _ => by go_simp <;> rfl) (fun _ => by simp [go_sem, *]) ?_; walk_nrm)))
  rw [w_and ha (by omega)]
  ((iterate 2 (refine GU.unwanted hp rfl rfl ?_; walk_nrm)); refine GU.value hp _ rfl rfl (by k_ne) (fun _ => by go_simp <;> rfl) (fun _ => by simp [go_sem, *]) ?_; walk_nrm; refine GU.ctl hp rfl (fun _ => stepG_region_end) ?_; refine GU.ctl hp rfl (fun _ => stepG_cond (t := false) rfl) ?_; simp only [if_true, if_false, Bool.false_eq_true, ↓reduceIte]; refine GU.ctl hp rfl (fun _ => stepG_skip) ?_; refine GU.ctl hp rfl (fun _ => stepG_seq) ?_; refine GU.ctl hp rfl (fun _ => stepG_region) ?_; simp only [List.size_toArray, List.length_cons, List.length_nil, Nat.reduceAdd, Nat.zero_add, List.range, List.range.loop]; (iterate 4 (refine GU.value hp _ rfl rfl (by k_ne) (fun _ => by go_simp <;> rfl) (fun _ => by simp [go_sem, *]) ?_; walk_nrm)); refine GU.ctl hp rfl (fun _ => stepG_region_end) ?_; refine GU.ctl hp rfl (fun _ => stepG_seq) ?_; refine GU.ctl hp rfl (fun _ => stepG_region) ?_; simp only [List.size_toArray, List.length_cons, List.length_nil, Nat.reduceAdd, Nat.zero_add, List.range, List.range.loop]; (iterate 4 (refine GU.value hp _ rfl rfl (by k_ne) (fun _ => by go_simp <;> rfl) (fun _ => by simp [go_sem, *]) ?_; walk_nrm)); refine GU.ctl hp rfl (fun _ => stepG_region_end) ?_; (iterate 2 (refine GU.ctl hp rfl (fun _ => stepG_seq) ?_)); refine GU.ctl hp rfl (fun _ => stepG_region) ?_; simp only [List.size_toArray, List.length_cons, List.length_nil, Nat.reduceAdd, Nat.zero_add, List.range, List.range.loop]; (iterate 10 (refine GU.value hp _ rfl rfl (by k_ne) (fun _ => by go_simp <;> rfl) (fun _ => by simp [go_sem, *]) ?_; walk_nrm)); refine GU.ctl hp rfl (fun _ => stepG_region_end) ?_)
  rw [w_lo ha (by omega), w_hi ha (by omega)]
  skip
  have e20 : ((((v + 1 : Nat)) : Int) == IntKind.i32.wrap 1) = decide (v = 0) := by
    rw [show IntKind.i32.wrap 1 = 1 from by decide]
    by_cases h : v = 0
    · subst h; rfl
    · simp only [h, decide_false]; exact beq_eq_false_iff_ne.2 (by omega)
  have e22 : decide ((((v + 1 : Nat)) : Int) < 0) = false := decide_eq_false (by omega)
  have e24 : decide (0 < (((v + 1 : Nat)) : Int)) = true := decide_eq_true (by omega)
  rw [e20]
  have tail : ∀ (j3 : Nat), j3 < k → ∀ (T : Array Value) (todo : List Item), GU Try.prog true (RK 46 55 4 c (some z)) (AtS Try.prog 46 55 4 c q Anch (j3 + 1) ⟨.se, jj, vs, z⟩) p (G { (Go.Conc.base 8).at ⟨T, [dcall 16 #[]]⟩ todo with mode := .returning } (b₁.at a₁ (.inRegion ops₁ (i₁ :: rest₁) :: k₁) :: cs)) := fun j3 hj3 T todo => by
    -- STOP se
    refine stopS K rfl rfl rfl (by simp) (fun w s hw hs hf => ⟨⟨.sg, jj, vs, z⟩, s, _, _, _, some z, p, by simp [StepS], sUnwindEnable, hs, Eff.refl _ _ _, by simp [EvS], rfl, by simp, hw, ⟨rfl, fun j4 hj4 => ?_⟩⟩)
    (refine GU.leave0 hp rfl rfl Try.func8 rfl ?_; walk_nrm)
    exact next.2 j4 (by omega)
  by_cases h0 : v = 0
  · subst h0
    simp only [decide_true, if_true]
    (refine GU.ctl hp rfl (fun _ => stepG_cond (t := true) rfl) ?_; simp only [if_true, if_false, Bool.false_eq_true, ↓reduceIte]; refine GU.ctl hp rfl (fun _ => stepG_region) ?_; simp only [List.size_toArray, List.length_cons, List.length_nil, Nat.reduceAdd, Nat.zero_add, List.range, List.range.loop]; (iterate 3 (refine GU.value hp _ rfl rfl (by k_ne) (fun _ => by go_simp <;> rfl) (fun _ => by simp [go_sem, *]) ?_; walk_nrm)))
    refine GU.conv hp rfl rfl (by k_ne) rfl rfl u68 u61 z32 (fun w hw => by obtain ⟨x, hx⟩ := hcg w hw; exact ⟨_, hx⟩) ?_
    walk_nrm
    -- STOP sr
    refine stopS K rfl rfl rfl (by simp) (fun w s hw hs hf => ⟨⟨.se, jj, vs, z⟩, s, _, _, _, some z, p, by simp [StepS], sRead (ad := smA c.Wg) rfl rfl (by k_ne) rfl (by simp [Act.eval, smA]), hs, Eff.refl _ _ _, by simp [EvS], rfl, by simp, hw, ⟨rfl, fun j4 hj4 => ?_⟩⟩)
    clear hw hs hf
    walk_nrm
    (refine GU.ctl hp rfl (fun _ => stepG_region_end) ?_; (iterate 2 (refine GU.ctl hp rfl (fun _ => stepG_seq) ?_)); refine GU.ctl hp rfl (fun _ => stepG_region) ?_; simp only [List.size_toArray, List.length_cons, List.length_nil, Nat.reduceAdd, Nat.zero_add, List.range, List.range.loop]; (iterate 2 (refine GU.value hp _ rfl rfl (by k_ne) (fun _ => by go_simp <;> rfl) (fun _ => by simp [go_sem, *]) ?_; walk_nrm)); refine GU.ctl hp rfl (fun _ => stepG_region_end) ?_; refine GU.ctl hp rfl (fun _ => stepG_cond (t := false) rfl) ?_; simp only [if_true, if_false, Bool.false_eq_true, ↓reduceIte]; refine GU.ctl hp rfl (fun _ => stepG_skip) ?_; (iterate 2 (refine GU.ctl hp rfl (fun _ => stepG_seq) ?_)); refine GU.ctl hp rfl (fun _ => stepG_region) ?_; simp only [List.size_toArray, List.length_cons, List.length_nil, Nat.reduceAdd, Nat.zero_add, List.range, List.range.loop]; (iterate 3 (refine GU.value hp _ rfl rfl (by k_ne) (fun _ => by go_simp <;> rfl) (fun _ => by simp [go_sem, *]) ?_; walk_nrm)); (iterate 2 (refine GU.unwanted hp rfl rfl ?_; walk_nrm)); (iterate 2 (refine GU.value hp _ rfl rfl (by k_ne) (fun _ => by go_simp <;> rfl) (fun _ => by simp [go_sem, *]) ?_; walk_nrm)); (iterate 4 (refine GU.unwanted hp rfl rfl ?_; walk_nrm)); refine GU.value hp _ rfl rfl (by k_ne) (fun _ => by go_simp <;> rfl) (fun _ => by simp [go_sem, *]) ?_; walk_nrm; refine GU.ctl hp rfl (fun _ => stepG_region_end) ?_; refine GU.ctl hp rfl (fun _ => stepG_cond (t := false) rfl) ?_; simp only [if_true, if_false, Bool.false_eq_true, ↓reduceIte]; refine GU.ctl hp rfl (fun _ => stepG_skip) ?_; (iterate 2 (refine GU.ctl hp rfl (fun _ => stepG_seq) ?_)); refine GU.ctl hp rfl (fun _ => stepG_region) ?_; simp only [List.size_toArray, List.length_cons, List.length_nil, Nat.reduceAdd, Nat.zero_add, List.range, List.range.loop]; (iterate 3 (refine GU.value hp _ rfl rfl (by k_ne) (fun _ => by go_simp <;> rfl) (fun _ => by simp [go_sem, *]) ?_; walk_nrm)); (iterate 2 (refine GU.unwanted hp rfl rfl ?_; walk_nrm)); refine GU.value hp _ rfl rfl (by k_ne) (fun _ => by go_simp <;> rfl) (fun _ => by simp [go_sem, *]) ?_; walk_nrm; refine GU.ctl hp rfl (fun _ => stepG_region_end) ?_; refine GU.ctl hp rfl (fun _ => stepG_cond (t := true) rfl) ?_; simp only [if_true, if_false, Bool.false_eq_true, ↓reduceIte]; refine GU.ctl hp rfl (fun _ => stepG_ret') ?_)
    exact tail _ (by omega) _ _
  · simp only [h0, decide_false, if_false]
    (refine GU.ctl hp rfl (fun _ => stepG_cond (t := false) rfl) ?_; simp only [if_true, if_false, Bool.false_eq_true, ↓reduceIte]; refine GU.ctl hp rfl (fun _ => stepG_skip) ?_; (iterate 2 (refine GU.ctl hp rfl (fun _ => stepG_seq) ?_)); refine GU.ctl hp rfl (fun _ => stepG_region) ?_; simp only [List.size_toArray, List.length_cons, List.length_nil, Nat.reduceAdd, Nat.zero_add, List.range, List.range.loop]; (iterate 2 (refine GU.value hp _ rfl rfl (by k_ne) (fun _ => by go_simp <;> rfl) (fun _ => by simp [go_sem, *]) ?_; walk_nrm)); refine GU.ctl hp rfl (fun _ => stepG_region_end) ?_; refine GU.ctl hp rfl (fun _ => stepG_cond (t := false) rfl) ?_; simp only [if_true, if_false, Bool.false_eq_true, ↓reduceIte]; refine GU.ctl hp rfl (fun _ => stepG_skip) ?_; (iterate 2 (refine GU.ctl hp rfl (fun _ => stepG_seq) ?_)); refine GU.ctl hp rfl (fun _ => stepG_region) ?_; simp only [List.size_toArray, List.length_cons, List.length_nil, Nat.reduceAdd, Nat.zero_add, List.range, List.range.loop]; (iterate 3 (refine GU.value hp _ rfl rfl (by k_ne) (fun _ => by go_simp <;> rfl) (fun _ => by simp [go_sem, *]) ?_; walk_nrm)); (iterate 2 (refine GU.unwanted hp rfl rfl ?_; walk_nrm)); (iterate 2 (refine GU.value hp _ rfl rfl (by k_ne) (fun _ => by go_simp <;> rfl) (fun _ => by simp [go_sem, *]) ?_; walk_nrm)); (iterate 4 (refine GU.unwanted hp rfl rfl ?_; walk_nrm)); refine GU.value hp _ rfl rfl (by k_ne) (fun _ => by go_simp <;> rfl) (fun _ => by simp [go_sem, *]) ?_; walk_nrm; refine GU.ctl hp rfl (fun _ => stepG_region_end) ?_; refine GU.ctl hp rfl (fun _ => stepG_cond (t := false) rfl) ?_; simp only [if_true, if_false, Bool.false_eq_true, ↓reduceIte]; refine GU.ctl hp rfl (fun _ => stepG_skip) ?_; (iterate 2 (refine GU.ctl hp rfl (fun _ => stepG_seq) ?_)); refine GU.ctl hp rfl (fun _ => stepG_region) ?_; simp only [List.size_toArray, List.length_cons, List.length_nil, Nat.reduceAdd, Nat.zero_add, List.range, List.range.loop]; (iterate 3 (refine GU.value hp _ rfl rfl (by k_ne) (fun _ => by go_simp <;> rfl) (fun _ => by simp [go_sem, *]) ?_; walk_nrm)); (iterate 2 (refine GU.unwanted hp rfl rfl ?_; walk_nrm)); refine GU.value hp _ rfl rfl (by k_ne) (fun _ => by go_simp <;> rfl) (fun _ => by simp [go_sem, *]) ?_; walk_nrm; refine GU.ctl hp rfl (fun _ => stepG_region_end) ?_; refine GU.ctl hp rfl (fun _ => stepG_cond (t := true) rfl) ?_; simp only [if_true, if_false, Bool.false_eq_true, ↓reduceIte]; refine GU.ctl hp rfl (fun _ => stepG_ret') ?_)
    exact tail _ (by omega) _ _
end
end Go.Proofs.Ytnlopklbbajlbaa.Sw
