/- LightOnce: the machine's steps while a phase runs (2): a worker's stop that has a way on. -/
import Derived.Test.YtnlopklbbajlbaaSwS
namespace Go.Proofs.Ytnlopklbbajlbaa.Sw
open Go Go.Conc Go.ConcN
open Go.ConcR (stA smA DC0)

section
variable {P : Program} {tA tW tB : TypeId} {c : TC} {q : AP} {Anch : Sh → Goroutine → World → Prop}
variable {k : Nat} {g g' : Goroutine} {w w' W0 : World} {gs : Array Goroutine} {G : GS} {own pdo : Option Nat} {kS φS : Nat} {kW φW qO : Nat → Nat} {t : Trace} {sl : Option (Nat × Nat)} {T' : Wk} {s' : Sh} {es : Array Event}

theorem step_bx {W n : Nat} {nm : Nat → ByteArray} {T X : Wk} {s s' : Sh} (h : Step W n nm T s X s') (hp : T.pc ≠ .bx) : X.bx = T.bx := by
  cases hq : T.pc <;> simp only [Step, hq] at h
  case bx => exact absurd hq hp
  case m0 => rcases h with ⟨_, rfl, _⟩ | ⟨_, rfl, _⟩ <;> rfl
  case mr0 => obtain ⟨rfl, _⟩ := h; exact bx_head _
  case msq => obtain ⟨_, rfl | ⟨_, _, _, rfl⟩ | ⟨_, rfl⟩⟩ := h <;> rfl
  case mc1 => rcases h with ⟨_, rfl, _⟩ | ⟨_, rfl, _⟩ <;> rfl
  case mr1 => obtain ⟨rfl, _⟩ := h; exact bx_head _
  case mc2 => rcases h with ⟨_, _, ⟨_, _, rfl⟩ | ⟨_, rfl | rfl⟩⟩ | ⟨_, rfl, _⟩ <;> rfl
  case ms1 => obtain ⟨_, _, rfl | rfl⟩ := h <;> rfl
  case mt2 => obtain ⟨rfl | rfl, _⟩ := h <;> rfl
  case mr2 => obtain ⟨⟨_, rfl⟩ | ⟨_, rfl⟩, _⟩ := h; rfl; exact bx_head _
  case mr3 => obtain ⟨rfl, _⟩ := h; exact bx_head _
  case al => obtain ⟨z, rfl, _⟩ := h; rfl
  case lk2 => obtain ⟨⟨_, rfl⟩ | ⟨_, rfl⟩, _⟩ := h <;> rfl
  case dr => obtain ⟨rfl | rfl, _⟩ := h <;> rfl
  case u0 => obtain ⟨_, ⟨_, rfl⟩ | ⟨_, _, rfl⟩ | ⟨_, _, _, rfl⟩⟩ := h <;> rfl
  case uc => rcases h with ⟨_, rfl, _⟩ | ⟨_, rfl, _⟩ <;> rfl
  case ux => obtain ⟨⟨_, rfl⟩ | ⟨_, _, _, _, rfl⟩, _⟩ := h <;> rfl
  case ue => obtain ⟨h, _⟩ := h; split at h <;> subst h <;> rfl
  all_goals (obtain ⟨rfl, _⟩ := h; rfl)

/-- A list without a name twice is no longer than what holds all its names. -/
theorem nodup_le {α : Type} [DecidableEq α] : ∀ {l m : List α}, l.Nodup → (∀ x ∈ l, x ∈ m) → l.length ≤ m.length
  | [], _, _, _ => Nat.zero_le _
  | a :: l, m, h, hs => by
    have ha : a ∈ m := hs a (.head _)
    obtain ⟨h1, h2⟩ := List.nodup_cons.1 h
    have := nodup_le (l := l) (m := m.erase a) h2 fun x hx => by
      have : x ≠ a := fun e => h1 (e ▸ hx)
      exact (List.mem_erase_of_ne this).2 (hs x (.tail _ hx))
    rw [List.length_erase_of_mem ha] at this
    have : 0 < m.length := List.length_pos_of_mem ha
    simp only [List.length_cons]
    omega
/-- What is known of a worker's step. -/
theorem Inv.fitW (I : Inv c.W c.n q.B q.nm q.S0 G) (hB : 3 * c.W ≤ q.B) (hB2 : c.W + 1 ≤ q.B) (hqW : q.W = c.W) (hqn : q.n = c.n) (hk : k < G.t0.j) : FitW q (G.th k) G.s := by
  have hj := I.jW
  have hrb : ∀ r, role (G.th k) = r → rb (G.th k) (G.th k).b = r := fun r h => by rw [rb_self]; exact h
  have g1 : (G.th k).pc = .d1 → 1 ≤ cP G.th G.t0.j pre := fun e => cP_pos hk (by simp [pre, e])
  have g2 : (G.th k).pc = .d2 ∨ (G.th k).pc = .d3 → 1 ≤ cP G.th G.t0.j mid2 := fun e => cP_pos hk (by rcases e with e | e <;> simp [mid2, e])
  have g4 : (G.th k).pc = .d4 → 1 ≤ cP G.th G.t0.j mid4 := fun e => cP_pos hk (by simp [mid4, e])
  have hle := cP_le (th := G.th) (j := G.t0.j) pre
  have hg := I.grp
  unfold Grp at hg
  refine ⟨fun b => ⟨I.mb.bound b (by omega), Nat.le_trans (I.mb.semBound b) (by omega)⟩, I.locM k hk, I.onc.loc k hk, I.cont.loc k hk, I.onc.yes, fun e => by rw [hqn]; exact (I.cont.item k hk).2.1 e, fun e => I.mb.hold hk (hrb 1 e), fun e => (I.mb.tk hk (hrb 3 e)).2, fun e => I.mb.awk hk (hrb 2 e), fun e => (I.mb.tk hk (hrb 3 e)).1, fun e => I.mb.ad hk (hrb 4 e), fun e => ?_, fun e => ?_, fun e => ?_, ?_⟩
  · have := g1 e
    rw [hqW]
    cases hp : G.t0.pc <;> simp only [hp] at hg <;> omega
  · have := g2 e
    cases hp : G.t0.pc <;> simp only [hp] at hg <;> omega
  · have := g4 e
    cases hp : G.t0.pc <;> simp only [hp] at hg <;> omega
  · have h1 := I.cont.num
    have h2 : Go.ConcN.sumTo G.t0.j (fun k => ind (adding (G.th k) = true)) ≤ 1 * G.t0.j := Go.ConcN.sumTo_le fun i _ => ind_le _
    have h3 : G.s.con.length ≤ (q.S0 ++ (List.range c.n).map q.nm).length := nodup_le I.cont.nodup fun x hx => by
      rcases (I.cont.mem x).1 hx with h | ⟨i, hi, _, _, rfl⟩
      · exact List.mem_append.2 (.inl h)
      · exact List.mem_append.2 (.inr (List.mem_map.2 ⟨i, List.mem_range.2 hi, rfl⟩))
    simp only [List.length_append, List.length_map, List.length_range] at h3
    rw [hqn, hqW]
    omega

/-- ████ A WORKER's STOP THAT HAS A WAY ON. ████ -/
theorem stepMoveW (hW : 0 < c.W) (hB : 3 * c.W ≤ q.B) (hqW : q.W = c.W) (hqn : q.n = c.n) (hinj : ∀ a b, a < c.n → b < c.n → q.nm a = q.nm b → a = b)
    (C : Ctx P tA tW tB c q Anch W0 gs w G own pdo kS kW φS φW qO t) (hk : k < G.t0.j) (hg : gs[idW c k]? = some g) (hnq : (G.th k).pc ≠ .quit) (hS : StpW P tA tW tB c q (AtW P tA tW tB c q (kW k)) (G.th k) g w) (hnw : ¬ waitW (G.th k) G.s) :
    ∃ m₁ ops μ', runT P (crowd gs w sl) (idW c k) = (.next m₁, ops) ∧ Lt2 μ' (rank c.W c.n G, Sum c G φS φW qO) ∧ MInv P tA tW tB c q Anch W0 μ' m₁ (t ++ ops) := by
  have hfit := C.inv.fitW hB (by omega) hqW hqn hk
  obtain ⟨_, _, hwk, hmv⟩ := hS
  obtain ⟨T', s', g', w', es, hM, hs, hsh', heff, hev, hsz, haft⟩ := (hmv G.s C.shat hfit).2 hnw
  rw [hqW, hqn] at hM
  have hI' := C.inv.worker hW hB hinj hk hM
  have hrk := rank_worker hW C.inv hk hM
  have hlow := C.shat.low
  have hbxk := C.bxw k hk
  have hmp : 1 ≤ G.s.st → G.s.mp < w.heap.size := fun x => (C.shat.m x).1
  obtain ⟨e, he⟩ : ∃ e, kW k = e + 1 := ⟨kW k - 1, by have := C.dW k hk; omega⟩
  rw [he] at haft
  -- the trace, and what its step says of the worker itself
  have hsize : w.heap.size ≤ w'.heap.size := heff.size
  obtain ⟨own', pdo', hti, hdq, hqc, hbx', hsem, hst'⟩ : ∃ own' pdo', TI c ⟨G.t0, upd G.th k T', s'⟩ own' pdo' w'.heap.size (t ++ MemOp.ofEvents (idW c k) g.frame.fn g.frame.place es) ∧ (T'.pc = .quit → Deaf (t ++ MemOp.ofEvents (idW c k) g.frame.fn g.frame.place es) (idW c k) = 1) ∧
      (0 < T'.c → bare T'.pc = false) ∧ (T'.bx = (G.th k).bx ∨ (T'.bx = w.heap.size ∧ w'.heap.size = w.heap.size + 1 ∧ s' = G.s)) ∧
      ((∀ b, (G.s.mx b).sem = 0 → (s'.mx b).sem = 0) ∧ (G.s.ws = 0 → s'.ws = 0) ∨ ((G.th k).c = 0 ∧ ((G.th k).pc = .us ∨ (G.th k).pc = .d4))) ∧
      (1 ≤ s'.st → (1 ≤ G.s.st ∧ s'.mp = G.s.mp) ∨ s'.mp = w.heap.size) := by
    rcases hM with ⟨hc, rfl, c', hlt, rfl⟩ | ⟨hc, X, c', hst, rfl, hc'⟩
    · rw [if_neg (by omega)] at hsz
      refine ⟨own, pdo, C.ti.quiet C.inv C.sep hk hc (C.qc k hk hc) hev hlow hbxk.1 hmp hsize c', fun e => absurd e hnq, fun _ => C.qc k hk hc, .inl rfl, .inl ⟨fun _ => id, id⟩, fun h => .inl ⟨h, rfl⟩⟩
    · have hr := step_rest hst
      obtain ⟨own', pdo', h1, h2⟩ := C.ti.step (fn := g.frame.fn) (pos := g.frame.place) (Bd' := w'.heap.size) C.inv C.sep hk hst hc hev hlow hbxk.1 hmp (by
        by_cases hp : (G.th k).pc = .bx ∨ (G.th k).pc = .al
        · rw [if_pos ⟨hc, hp⟩] at hsz
          rw [if_pos hp]
          exact hsz
        · rw [if_neg (fun x => hp x.2)] at hsz
          rw [if_neg hp]
          exact hsz) c'
      refine ⟨own', pdo', h1, h2, fun hp => ?_, ?_, ?_, fun hs1 => ?_⟩
      · show bare X.pc = false
        cases hb : bare X.pc
        · rfl
        · rw [hb] at hc'
          simp only [if_true] at hc'
          have : (0 : Nat) < c' := hp
          omega
      · by_cases hp : (G.th k).pc = .bx
        · rw [if_pos ⟨hc, .inl hp⟩] at hsz
          simp only [Step, hp] at hst
          exact .inr ⟨hsz.2.1 hp, hsz.1, hst.2⟩
        · have := step_bx hst hp
          exact .inl this
      · by_cases hp : (G.th k).pc = .us ∨ (G.th k).pc = .d4
        · exact .inr ⟨hc, hp⟩
        · refine .inl ⟨fun b hb => (step_sem hst b hb).resolve_right fun x => hp (.inl x), fun h0 => ?_⟩
          rw [hr.ws, if_neg fun x => hp (.inr x)]
          exact h0
      · by_cases hp : (G.th k).pc = .al
        · rw [if_pos ⟨hc, .inr hp⟩] at hsz
          exact .inr (hsz.2.2 hp)
        · left
          refine ⟨?_, hr.mp hp⟩
          by_cases hp2 : (G.th k).pc = .sl
          · have := hfit.locO
            simp only [LocO, hp2] at this
            omega
          · rw [hr.st, if_neg hp, if_neg hp2] at hs1
            exact hs1
  -- what the others suffer
  have hRK : ∀ o : Option Nat, (∀ b, o = some b → c.Low ≤ b ∧ b < w.heap.size ∧ (1 ≤ G.s.st → b ≠ G.s.mp)) → RK tA tW tB c o w w' := fun o ho =>
    RK.of_eff C.shat heff hsh' (fun b hb => ⟨(ho b hb).1, (ho b hb).2.1, (ho b hb).2.2, by simp⟩) (fun b hb => by cases hb) (mv_keep hM hfit.locO)
  have hoS : ∀ b, bxS G.t0 = some b → c.Low ≤ b ∧ b < w.heap.size ∧ (1 ≤ G.s.st → b ≠ G.s.mp) := fun b hb => ⟨C.sep.bxLow 0 b (.inl rfl) (by simp [bxOf, hb]), C.bxs b hb⟩
  have hoW : ∀ a, a < G.t0.j → ∀ b, some (G.th a).bx = some b → c.Low ≤ b ∧ b < w.heap.size ∧ (1 ≤ G.s.st → b ≠ G.s.mp) := fun a ha b hb => by
    cases hb
    exact ⟨C.sep.bxLow (idW c a) _ (idW_sd ha) (bxOf_w a), C.bxw a ha⟩
  have hrun' : g'.status = .running := by
    unfold AfterW at haft
    split at haft
    · obtain ⟨n, hQ⟩ := haft
      exact Go.ConcM.quitsD_running hQ
    · obtain ⟨m, hm⟩ := haft
      exact Goes.running (fun _ _ x => x.1) _ (RK.refl _ _) hm
  have hws : waitS G.t0 G.s → waitS G.t0 s' ∨ (mayWake P g = true ∧ g'.status = .running) := fun h => by
    rcases hsem with h1 | ⟨h1, h2⟩
    · exact .inl ⟨h.1, h1.2 h.2⟩
    · exact .inr ⟨hwk h1 h2, hrun'⟩
  obtain ⟨φS', φW', o1, o2, o3, o4, o5⟩ := C.others (x := g) (x' := g') (w' := w') (s' := s') (t' := t ++ MemOp.ofEvents (idW c k) g.frame.fn g.frame.place es) (i := idW c k) (fun _ => hRK _ hoS) (fun a ha _ => hRK _ (hoW a ha)) hws
    (fun a _ _ h => by
      rcases hsem with h1 | ⟨h1, h2⟩
      · exact .inl ⟨h.1, h.2.1, h1.1 _ h.2.2⟩
      · exact .inr ⟨hwk h1 h2, hrun'⟩) (fun i' hi' => Deaf_other t (Ne.symm hi') _ ofE_g)
  -- where it stands now
  obtain ⟨φn, hsn⟩ : ∃ φn, SitW P tA tW tB c q T' e φn (Deaf (t ++ MemOp.ofEvents (idW c k) g.frame.fn g.frame.place es) (idW c k)) s' g' w' := by
    unfold AfterW at haft
    split at haft
    · rename_i hq
      obtain ⟨n, hQ⟩ := haft
      exact ⟨MM c * n, .inr (.inr ⟨hq, n, rfl, by rw [hdq hq]; exact hQ⟩)⟩
    · rename_i hq
      obtain ⟨m, hm⟩ := haft
      exact ⟨MM c * m + 1, .inl ⟨hq, m, rfl, hm⟩⟩
  have hszb : ∀ a, a < G.t0.j → ((upd G.th k T') a).bx < w'.heap.size ∧ (1 ≤ s'.st → ((upd G.th k T') a).bx ≠ s'.mp) := fun a ha => by
    have hmpw : 1 ≤ s'.st → (1 ≤ G.s.st ∧ s'.mp = G.s.mp) ∨ s'.mp = w.heap.size := hst'
    by_cases ea : a = k
    · subst ea
      rw [upd_same]
      rcases hbx' with h1 | ⟨h1, h2, h3⟩
      · rw [h1]
        refine ⟨Nat.lt_of_lt_of_le hbxk.1 hsize, fun h4 => ?_⟩
        rcases hmpw h4 with ⟨h5, h6⟩ | h6
        · rw [h6]; exact hbxk.2 h5
        · rw [h6]; have := hbxk.1; omega
      · subst h3
        exact ⟨by omega, fun h4 => by rw [h1]; have := hmp h4; omega⟩
    · rw [upd_ne _ _ ea]
      have hb := C.bxw a ha
      refine ⟨Nat.lt_of_lt_of_le hb.1 hsize, fun h4 => ?_⟩
      rcases hmpw h4 with ⟨h5, h6⟩ | h6
      · rw [h6]; exact hb.2 h5
      · rw [h6]; have := hb.1; omega
  have hsep : Sep c G.t0.j (bxOf c ⟨G.t0, upd G.th k T', s'⟩) := by
    have hval : ∀ i, Sd c G.t0.j i → bxOf c ⟨G.t0, upd G.th k T', s'⟩ i = if i = idW c k then some T'.bx else bxOf c G i := fun i hi => by
      by_cases ei : i = idW c k
      · subst ei; rw [if_pos rfl, bxOf_w]; simp only [upd_same]
      · rw [if_neg ei]
        unfold bxOf
        by_cases h0 : i = 0
        · simp only [h0, if_true]
        · simp only [if_neg h0]
          rw [upd_ne _ _ (fun x => ei (by
            rcases hi with hi | hi
            · exact absurd hi h0
            · unfold idW; omega))]
    have hold : ∀ i b, Sd c G.t0.j i → bxOf c G i = some b → b < w.heap.size := fun i b hi hb => by
      by_cases h0 : i = 0
      · subst h0; exact (C.bxs b (by simpa [bxOf] using hb)).1
      · rcases hi with hi | hi
        · exact absurd hi h0
        · obtain ⟨a, ha, rfl⟩ : ∃ a, a < G.t0.j ∧ i = idW c a := ⟨i - (c.e + 1), by omega, by unfold idW; omega⟩
          rw [bxOf_w] at hb
          cases hb
          exact (C.bxw a ha).1
    have hk' : Sd c G.t0.j (idW c k) := idW_sd hk
    refine ⟨fun i b hi hb => ?_, fun i i' b hi hi' hb hb' => ?_⟩
    · rw [hval i hi] at hb
      split at hb
      · cases hb
        rcases hbx' with h1 | ⟨h1, _⟩
        · rw [h1]; exact C.sep.bxLow (idW c k) _ hk' (bxOf_w k)
        · rw [h1]; exact hlow
      · exact C.sep.bxLow i b hi hb
    · rw [hval i hi] at hb
      rw [hval i' hi'] at hb'
      split at hb
      · rename_i h1
        split at hb'
        · rename_i h2; rw [h1, h2]
        · rename_i h2
          cases hb
          rcases hbx' with h3 | ⟨h3, _⟩
          · have := C.sep.bxInj (idW c k) i' _ hk' hi' (bxOf_w k) (by rw [← h3]; exact hb')
            rw [h1]; exact this
          · have := hold i' _ hi' hb'; omega
      · split at hb'
        · rename_i h2
          cases hb'
          rcases hbx' with h3 | ⟨h3, _⟩
          · have := C.sep.bxInj i (idW c k) _ hi hk' hb (by rw [bxOf_w, h3])
            rw [h2]; exact this
          · have := hold i _ hi hb; omega
        · exact C.sep.bxInj i i' b hi hi' hb hb'
  refine ⟨_, _, (rank c.W c.n ⟨G.t0, upd G.th k T', s'⟩, _), runT_crowd_go hg (by rw [beq0 idW_ne]; exact hs), Prod.Lex.left _ _ hrk, _, w', sl, ⟨G.t0, upd G.th k T', s'⟩, own', pdo', kS, upd kW k e, φS', upd φW' k φn, qO, rfl, ?_, rfl⟩
  refine ⟨by simp [C.size], hI', hsh', Nat.le_trans (Nat.le_of_lt hrk) C.dS, fun a ha => ?_, o3 idW_ne, fun a ha => ?_, fun i h1 h2 => o5 i h1 h2 (by unfold idW; omega), hti, fun a ha hp => ?_, hsep, hszb, fun b hb => ?_, C.nf, C.far.trans (hRK none (fun _ h => by cases h))⟩
  · by_cases ea : a = k
    · subst ea; rw [upd_same]; have := C.dW a hk; omega
    · rw [upd_ne _ _ ea]; exact Nat.le_trans (Nat.le_of_lt hrk) (C.dW a ha)
  · simp only
    by_cases ea : a = k
    · subst ea
      simp only [upd_same]
      exact ⟨g', getElem?_self hg, hsn⟩
    · simp only [upd_ne _ _ ea]
      exact o4 a ha fun x => ea (idW_inj x)
  · simp only at hp ⊢
    by_cases ea : a = k
    · subst ea; rw [upd_same] at hp ⊢; exact hqc hp
    · rw [upd_ne _ _ ea] at hp ⊢; exact C.qc a ha hp
  · have h1 := C.bxs b hb
    refine ⟨Nat.lt_of_lt_of_le h1.1 hsize, fun h4 => ?_⟩
    rcases hst' h4 with ⟨h5, h6⟩ | h6
    · simp only; rw [h6]; exact h1.2 h5
    · simp only; rw [h6]; have := h1.1; omega
end
end Go.Proofs.Ytnlopklbbajlbaa.Sw
