/- LightOnce: a region's drawn order as a plain law; stops that allot a block; a quiet stop whose outcome hangs on the tape. -/
import Derived.Test.YtnlopklbbajlbaaSwKS
import Derived.Orders
set_option linter.unusedVariables false
namespace Go.Proofs.Ytnlopklbbajlbaa.Sw
open Go Go.Conc Go.ConcN Go.RowKit
open Go.ConcR (DC0 stA smA)

/-! ### orders -/
/-- Number i may come up now. -/
def okAt (ops : Array Oper) (L : Array Bool) (i : Nat) : Bool := !L.getD i true && ((ops[i]?).map (·.after.all fun e => !Region.binds .any e || L.getD e.on false)).getD false
theorem okAt_iff {ops : Array Oper} {L : Array Bool} {i : Nat} : okAt ops L i = true ↔ (L.getD i true = false ∧ ∃ o, ops[i]? = some o ∧ ∀ e ∈ o.after, Region.binds .any e = true → L.getD e.on false = true) := by
  rw [← mem_ready]
  unfold Region.ready
  rw [List.mem_filter, List.mem_range]
  constructor
  · intro h
    refine ⟨?_, h⟩
    rcases Nat.lt_or_ge i ops.size with h' | h'
    · exact h'
    · simp [okAt, Array.getElem?_eq_none h'] at h
  · exact fun h => h.2
/-- l is an order in which what is left of the region may come up. -/
def Ord (ops : Array Oper) : Array Bool → List Nat → Prop
  | L, [] => ∀ i, i < ops.size → L.getD i false = true
  | L, i :: l => okAt ops L i = true ∧ Ord ops (L.setIfInBounds i true) l
theorem Ord.lt {ops : Array Oper} {L : Array Bool} {i : Nat} {l : List Nat} (h : Ord ops L (i :: l)) : i < ops.size := by
  obtain ⟨_, o, h, _⟩ := okAt_iff.1 h.1
  exact (Array.getElem?_eq_some_iff.1 h).1
theorem Ord.mem {ops : Array Oper} {i : Nat} (hi : i < ops.size) : ∀ {l : List Nat} {L : Array Bool}, Ord ops L l → L.getD i false = false → i ∈ l
  | [], L, h, h0 => by have := h i hi; rw [h0] at this; cases this
  | a :: l, L, h, h0 => by
    by_cases e : a = i
    · rw [e]; exact .head _
    · exact .tail _ (Ord.mem hi h.2 (by rw [getD_set_ne _ e]; exact h0))
theorem Ord.nil {ops : Array Oper} {L : Array Bool} {l : List Nat} (h : Ord ops L l) (hL : (List.range ops.size).all (fun i => L.getD i true) = true) : l = [] := by
  cases l with
  | nil => rfl
  | cons i l =>
    have h1 := (okAt_iff.1 h.1).1
    have h2 := List.all_eq_true.1 hL i (List.mem_range.2 h.lt)
    rw [h1] at h2
    cases h2
/-- Each waits for earlier ones alone. -/
def Dag (ops : Array Oper) : Prop := ∀ i o, ops[i]? = some o → ∀ e ∈ o.after, Region.binds .any e = true → e.on < i
theorem dag_of {ops : Array Oper} (h : ((List.range ops.size).all fun i => ((ops[i]?).map fun o => o.after.all fun e => !Region.binds .any e || decide (e.on < i)).getD true) = true) : Dag ops := by
  intro i o ho e he hb
  have hi : i < ops.size := (Array.getElem?_eq_some_iff.1 ho).1
  have := List.all_eq_true.1 h i (List.mem_range.2 hi)
  rw [ho] at this
  simp only [Option.map_some, Option.getD_some, Array.all_eq_true_iff_forall_mem] at this
  have := this e he
  rw [hb] at this
  simpa using this
/-- How many are left. -/
def left (L : Array Bool) : Nat := L.toList.countP (fun b => !b)
theorem left_set {L : Array Bool} {i : Nat} (h : L.getD i true = false) : left (L.setIfInBounds i true) + 1 = left L := by
  obtain ⟨l⟩ := L
  simp only [left, List.setIfInBounds_toArray]
  have h2 : l[i]? = some false := by
    simp at h
    cases e : l[i]? with
    | none => rw [e] at h; simp at h
    | some b => rw [e] at h; simp at h; rw [h]
  clear h
  induction l generalizing i with
  | nil => cases h2
  | cons x l ih =>
    cases i with
    | zero => simp at h2; subst h2; simp
    | succ i =>
      simp only [List.getElem?_cons_succ] at h2
      simp only [List.set_cons_succ, List.countP_cons]
      have := ih h2
      omega
theorem left_none {L : Array Bool} (h : left L = 0) : ∀ i, i < L.size → L.getD i false = true := by
  obtain ⟨l⟩ := L
  intro i hi
  simp only [left, List.countP_eq_zero] at h
  have := h l[i] (List.getElem_mem _)
  simp at this
  simp [List.getElem?_eq_getElem (show i < l.length from hi), this]
theorem left_full (n : Nat) : left (Array.replicate n false) = n := by simp [left, List.countP_replicate]
theorem ord_go {ops : Array Oper} (hd : Dag ops) : ∀ (fuel t : Nat) (L : Array Bool), L.size = ops.size → left L ≤ fuel → Ord ops L (Region.linearise.go .any ops fuel t L []) ∧ (Region.linearise.go .any ops fuel t L []).length ≤ fuel := by
  intro fuel
  induction fuel with
  | zero =>
    intro t L hs hl
    simp only [Region.linearise.go, List.reverse_nil, List.length_nil, Nat.le_refl, and_true]
    exact fun i hi => left_none (Nat.le_zero.1 hl) i (by omega)
  | succ fuel ih =>
    intro t L hs hl
    simp only [Region.linearise.go]
    change Ord ops L (match (Region.ready .any ops L)[t % (Region.ready .any ops L).length]? with
      | some i => Region.linearise.go .any ops fuel (t / (Region.ready .any ops L).length) (L.setIfInBounds i true) [i]
      | none => [].reverse) ∧ (match (Region.ready .any ops L)[t % (Region.ready .any ops L).length]? with
      | some i => Region.linearise.go .any ops fuel (t / (Region.ready .any ops L).length) (L.setIfInBounds i true) [i]
      | none => [].reverse).length ≤ fuel + 1
    cases hi : (Region.ready .any ops L)[t % (Region.ready .any ops L).length]? with
    | none =>
      have hnil : Region.ready .any ops L = [] := by
        cases hr : Region.ready .any ops L with
        | nil => rfl
        | cons x xs =>
          rw [hr] at hi
          have hlt : t % (x :: xs).length < (x :: xs).length := Nat.mod_lt _ (by simp)
          simp at hi
          simp at hlt
          omega
      simp only [List.reverse_nil, List.length_nil, Nat.zero_le, and_true]
      intro i hi
      induction i using Nat.strongRecOn with
      | _ i ihi =>
        rcases hb : L.getD i false with _ | _
        · exfalso
          have h0 : L.getD i true = false := by
            have : i < L.size := by omega
            simp [this] at hb ⊢
            exact hb
          have : i ∈ Region.ready .any ops L := mem_ready.2 ⟨h0, ops[i], Array.getElem?_eq_getElem hi, fun e he heb => ihi e.on (hd i _ (Array.getElem?_eq_getElem hi) e he heb) (by have := hd i _ (Array.getElem?_eq_getElem hi) e he heb; omega)⟩
          rw [hnil] at this
          cases this
        · rfl
    | some i =>
      have hm := mem_ready.1 (List.mem_of_getElem? hi)
      simp only []
      rw [linearise_go_acc, List.reverse_singleton, List.singleton_append]
      have := left_set hm.1
      obtain ⟨h1, h2⟩ := ih (t / (Region.ready .any ops L).length) (L.setIfInBounds i true) (by simpa using hs) (by omega)
      exact ⟨⟨okAt_iff.2 hm, h1⟩, by simpa using h2⟩
/-- ████ EVERY ORDER THAT THE TAPE CAN GIVE. ████ -/
theorem ord_sched {ops : Array Oper} (hd : Dag ops) (t : Nat) : Ord ops (Array.replicate ops.size false) (Region.schedule true ops t) ∧ (Region.schedule true ops t).length ≤ ops.size := by
  simp only [Region.schedule, Bool.true_or, if_true]
  exact ord_go hd ops.size t _ (by simp) (by rw [left_full]; exact Nat.le_refl _)
theorem stepG_drawn {P : Program} {main : Bool} {b : Frame} {a : Act} {k : List Item} {cs : List Frame} {w : World} {id : Nat} {ops : Array Oper} :
    stepG P main (G (b.at a (.code (.region id ops true) :: k)) cs) w =
      .go (G (b.at a (.inRegion ops (Region.schedule (P.follows .mixedOrders) ops (w.tape w.drawn (.order b.fn id))) :: k)) cs) { w with drawn := w.drawn + 1 } := by
  simp [G, stepG, stepG.exec, Frame.at, choose, Sem.run, Question.forced, Question.cut]
theorem mixed : Try.prog.follows .mixedOrders = true := by kernel_rfl

section
variable {c : TC} {q : AP} {bx : Nat} {p : World → Prop} {k : Nat} {T : Wk} {g : Goroutine}
/-- A QUIET STOP whose outcome hangs on the tape. -/
theorem stopQd (K : KN c bx p) (hb : T.bx = bx) {j : Nat} (hst : g.status = .running) (hof : g.offers = none) (h0 : 0 < T.c) (hnq : T.pc ≠ .quit)
    (h : ∀ w, p w → ∃ g' c' w', c' < T.c ∧ stepG Try.prog false g w = .go g' w' #[] ∧ w'.heap = w.heap ∧ w'.tape = w.tape ∧ w'.output = w.output ∧ w'.os = w.os ∧ WU c q bx p j { T with c := c' } g') :
    GU Try.prog false (RK 46 55 4 c (some bx)) (AtW Try.prog 46 55 4 c q (j + 1) T) p g := by
  refine GU.stop K.st fun w hw => ?_
  refine ⟨hst, hof, fun h => by omega, fun s hs hf => ⟨fun hwt => by have := hwt.1; omega, fun _ => ?_⟩⟩
  obtain ⟨g', c', w', hc, h1, h2, h3, h4, h5, n⟩ := h w hw
  have he : Eff c s none w w' := ⟨h3, h4, by rw [h5]; exact .refl _, by rw [h2]; exact Nat.le_refl _, fun _ _ _ _ _ _ _ => by rw [h2]⟩
  refine ⟨{ T with c := c' }, s, g', w', #[], .inl ⟨h0, rfl, c', hc, rfl⟩, h1, hs.of_heap h2, he, ?_, ?_, afterW (by exact hnq) (K.eff hw hs he (hs.of_heap h2) (fun h => ⟨h, rfl⟩)) n⟩
  · unfold EvW
    rw [if_pos h0]
    simp
  · rw [if_neg (by rintro ⟨h, _⟩; omega), h2]
/-- THE DRAW of a region's order, as a quiet stop. -/
theorem stopDraw (K : KN c bx p) (hb : T.bx = bx) {j : Nat} {ops : Array Oper} {id : Nat} {b : Frame} {a : Act} {kk : List Item} {cs : List Frame} (hd : Dag ops) (h0 : 0 < T.c) (hnq : T.pc ≠ .quit) (cnt : List Nat → Nat)
    (h : ∀ l, Ord ops (Array.replicate ops.size false) l → l.length ≤ ops.size → cnt l < T.c ∧ WU c q bx p j { T with c := cnt l } (G (b.at a (.inRegion ops l :: kk)) cs)) :
    GU Try.prog false (RK 46 55 4 c (some bx)) (AtW Try.prog 46 55 4 c q (j + 1) T) p (G (b.at a (.code (.region id ops true) :: kk)) cs) := by
  refine stopQd K hb rfl rfl h0 hnq fun w hw => ?_
  obtain ⟨o1, o2⟩ := ord_sched hd (w.tape w.drawn (.order b.fn id))
  obtain ⟨h1, h2⟩ := h _ o1 o2
  exact ⟨_, _, { w with drawn := w.drawn + 1 }, h1, by rw [stepG_drawn, mixed], rfl, rfl, rfl, rfl, h2⟩
/-- .. as a stop of its own. -/
theorem stopDr (K : KN c bx p) (hb : T.bx = bx) {j : Nat} {ops : Array Oper} {id : Nat} {b : Frame} {a : Act} {kk : List Item} {cs : List Frame} (hd : Dag ops) (h0 : T.c = 0) (hpc : T.pc = .dr) (nx : List Nat → Pc) (cnt : List Nat → Nat)
    (h : ∀ l, Ord ops (Array.replicate ops.size false) l → l.length ≤ ops.size → (nx l = .ia1 ∨ nx l = .iba) ∧ cnt l ≤ 16 ∧ WU c q bx p j { T with pc := nx l, c := cnt l } (G (b.at a (.inRegion ops l :: kk)) cs)) :
    GU Try.prog false (RK 46 55 4 c (some bx)) (AtW Try.prog 46 55 4 c q (j + 1) T) p (G (b.at a (.code (.region id ops true) :: kk)) cs) := by
  refine stopW K rfl rfl h0 (by rw [hpc]; simp) (by rw [hpc]; simp) fun w s hw hs hf => ?_
  obtain ⟨o1, o2⟩ := ord_sched hd (w.tape w.drawn (.order b.fn id))
  obtain ⟨h1, h3, h2⟩ := h _ o1 o2
  generalize hl : Region.schedule true ops (w.tape w.drawn (.order b.fn id)) = l at *
  refine ⟨{ T with pc := nx l }, cnt l, s, _, { w with drawn := w.drawn + 1 }, _, ?_, ?_, by rw [stepG_drawn, mixed, hl], hs.of_heap rfl, ⟨rfl, rfl, .refl _, Nat.le_refl _, fun _ _ _ _ _ _ _ => rfl⟩, rfl, ?_, ?_, h2⟩
  · rw [Step, hpc]
    simp only [Wk.mk.injEq, and_true]
    rcases h1 with e | e
    · exact .inl (by rw [e])
    · exact .inr (by rw [e])
  · rcases h1 with e | e <;> simp [e, bare, h3]
  · unfold EvW
    rw [if_neg (by omega), hpc]
  · rcases h1 with e | e <;> simp [e]
/-- A STOP behind which more is known. -/
theorem stopWp (K : KN c bx p) {j : Nat} (hst : g.status = .running) (hof : g.offers = none) (h0 : T.c = 0) (hpc : T.pc ≠ .bx ∧ T.pc ≠ .al ∧ T.pc ≠ .ms1)
    (hwk : T.pc ≠ .us ∧ T.pc ≠ .d4)
    (h : ∀ w s, p w → ShAt 46 55 4 c w s → FitW q T s → ∃ X c' s' g' w' es p', Step q.W q.n q.nm T s X s' ∧ c' ≤ (if bare X.pc then 0 else 16) ∧ stepG Try.prog false g w = .go g' w' es ∧ ShAt 46 55 4 c w' s' ∧ Eff c s none w w' ∧ w'.heap.size = w.heap.size ∧ EvW c T s es ∧ X.pc ≠ .quit ∧ (p w' → p' w') ∧ WU c q bx p' j { X with c := c' } g') :
    GU Try.prog false (RK 46 55 4 c (some bx)) (AtW Try.prog 46 55 4 c q (j + 1) T) p g := by
  refine GU.stop K.st fun w hw => ?_
  refine ⟨hst, hof, fun _ h => (h.elim (fun e => absurd e hwk.1) (fun e => absurd e hwk.2)), fun s hs hf => ⟨fun hwt => absurd hwt.2.1 hpc.2.2, fun _ => ?_⟩⟩
  obtain ⟨X, c', s', g', w', es, p', h1, h2, h3, h4, h5, h6, h7, h8, h8b, h9⟩ := h w s hw hs hf
  refine ⟨{ X with c := c' }, s', g', w', es, .inr ⟨h0, X, c', h1, rfl, h2⟩, h3, h4, h5, h7, ?_, afterW (by exact h8) (h8b (K.eff hw hs h5 h4 (st_keep h1 hf.locO))) h9⟩
  rw [if_neg (by rintro ⟨_, h | h⟩ <;> simp_all)]
  exact h6
/-- ITS OWN NEW BLOCK. -/
theorem stopW_bx (K : KN c bx p) {j : Nat} (hst : g.status = .running) (hof : g.offers = none) (h0 : T.c = 0) (hpc : T.pc = .bx) {p' : Nat → World → Prop}
    (h : ∀ w s, p w → ShAt 46 55 4 c w s → FitW q T s → ∃ c' g' w', c' ≤ 16 ∧ stepG Try.prog false g w = .go g' w' #[] ∧ ShAt 46 55 4 c w' s ∧ Eff c s none w w' ∧ w'.heap.size = w.heap.size + 1 ∧ p' w.heap.size w' ∧ WU c q w.heap.size (p' w.heap.size) j { T with pc := .dn0, bx := w.heap.size, c := c' } g') :
    GU Try.prog false (RK 46 55 4 c (some bx)) (AtW Try.prog 46 55 4 c q (j + 1) T) p g := by
  refine GU.stop K.st fun w hw => ?_
  refine ⟨hst, hof, fun _ h => by rw [hpc] at h; simp at h, fun s hs hf => ⟨fun hwt => absurd (hpc.symm.trans hwt.2.1) (by simp), fun _ => ?_⟩⟩
  obtain ⟨c', g', w', h1, h2, h3, h4, h5, h6, h7⟩ := h w s hw hs hf
  refine ⟨{ T with pc := .dn0, bx := w.heap.size, c := c' }, s, g', w', #[], .inr ⟨h0, { T with pc := .dn0, bx := w.heap.size }, c', ?_, rfl, by simpa [bare] using h1⟩, h2, h3, h4, ?_, ?_, afterW (by simp) h6 h7⟩
  · rw [Step, hpc]
    exact ⟨⟨_, rfl⟩, rfl⟩
  · unfold EvW
    rw [if_neg (by omega), hpc]
  · rw [if_pos ⟨h0, .inl hpc⟩]
    exact ⟨h5, fun _ => rfl, fun e => absurd (hpc.symm.trans e) (by simp)⟩
/-- THE MAP IS MADE. -/
theorem stopW_al (K : KN c bx p) {j : Nat} (hst : g.status = .running) (hof : g.offers = none) (h0 : T.c = 0) (hpc : T.pc = .al)
    (h : ∀ w s, p w → ShAt 46 55 4 c w s → FitW q T s → ∃ g' w', stepG Try.prog false g w = .go g' w' #[] ∧ ShAt 46 55 4 c w' { s with st := 1, mp := w.heap.size } ∧ Eff c s none w w' ∧ w'.heap.size = w.heap.size + 1 ∧ WU c q bx p j { T with pc := .sl, m := w.heap.size, c := 0 } g') :
    GU Try.prog false (RK 46 55 4 c (some bx)) (AtW Try.prog 46 55 4 c q (j + 1) T) p g := by
  refine GU.stop K.st fun w hw => ?_
  refine ⟨hst, hof, fun _ h => by rw [hpc] at h; simp at h, fun s hs hf => ⟨fun hwt => absurd (hpc.symm.trans hwt.2.1) (by simp), fun _ => ?_⟩⟩
  obtain ⟨g', w', h2, h3, h4, h5, h7⟩ := h w s hw hs hf
  have hst : Step q.W q.n q.nm T s { T with pc := .sl, m := w.heap.size } { s with st := 1, mp := w.heap.size } := by
    rw [Step, hpc]
    exact ⟨_, rfl, rfl⟩
  refine ⟨{ T with pc := .sl, m := w.heap.size, c := 0 }, { s with st := 1, mp := w.heap.size }, g', w', #[], .inr ⟨h0, { T with pc := .sl, m := w.heap.size }, 0, hst, rfl, Nat.zero_le _⟩, h2, h3, h4, ?_, ?_, afterW (by simp) (K.eff hw hs h4 h3 (st_keep hst hf.locO)) h7⟩
  · unfold EvW
    rw [if_neg (by omega), hpc]
  · rw [if_pos ⟨h0, .inr hpc⟩]
    exact ⟨h5, fun e => absurd (hpc.symm.trans e) (by simp), fun _ => rfl⟩
end
end Go.Proofs.Ytnlopklbbajlbaa.Sw
