/- LightOnce: the trace: each worker's last word to the group; the join. -/
import Derived.Test.YtnlopklbbajlbaaSwU
import Derived.Test.YtnlopklbbajlbaaSwJ
import Derived.Conc.MuStep3
namespace Go.Proofs.Ytnlopklbbajlbaa.Sw
open Go Go.Conc Go.ConcN
open Go.ConcR (stA smA)

/-- Worker g has said 'release and merge' of the group, heard; what it touches behind that is the group's cells, atomically, deaf. -/
structure RelW (c : TC) (t : Trace) (g r : Nat) : Prop where
  act : t.act? r = some (.mark (.releaseMerge (stA c.Wg)))
  gg : t.g? r = some g
  heard : t.heard r
  ge : c.p0 ≤ r
  after : ∀ i, r < i → t.g? i = some g → ∀ x, touchAt t i = some x → BxL c.Wg x.loc ∧ x.kind = .atomic ∧ ¬ t.heard i

section
variable {c : TC} {j : Nat} {mo own pdo : Option Nat} {dn : Bool} {bx : Nat → Option Nat} {t u : Trace} {g r : Nat}

theorem RelW.app (h : RelW c t g r) (hu : ∀ i, t.size ≤ i → (t ++ u).g? i = some g → ∀ x, touchAt (t ++ u) i = some x → BxL c.Wg x.loc ∧ x.kind = .atomic ∧ ¬ (t ++ u).heard i) : RelW c (t ++ u) g r := by
  have hr : r < t.size := lt_of_act? h.act
  refine ⟨by rw [act?_old hr]; exact h.act, by rw [g?_old hr]; exact h.gg, (heard_old hr).2 h.heard, h.ge, fun i hi hg x hx => ?_⟩
  rcases Nat.lt_or_ge i t.size with hlt | hge
  · rw [heard_old hlt]
    exact h.after i hi (by rw [← g?_old (u := u) hlt]; exact hg) x (by rw [← touchAt_old (u := u) hlt]; exact hx)
  · exact hu i hge hg x hx
theorem RelW.other (h : RelW c t g r) (hu : ∀ op ∈ u, op.g ≠ g) : RelW c (t ++ u) g r :=
  h.app fun i hi hg x hx => by
    rcases touch_cases hx with ⟨h1, _⟩ | ⟨op, hou, ho, _⟩
    · omega
    · simp only [Trace.g?, ho, Option.map_some, Option.some.injEq] at hg
      exact absurd hg (hu op hou)
theorem RelW.still (h : RelW c t g r) (hu : ∀ op ∈ u, op.act.touch? = none) : RelW c (t ++ u) g r :=
  h.app fun i hi hg x hx => by
    rcases touch_cases hx with ⟨h1, _⟩ | ⟨op, hou, _, hox⟩
    · omega
    · rw [hu op hou] at hox; cases hox
/-- A step of its own. -/
theorem RelW.self (h : RelW c t g r) (fn : FuncId) (pos : String) {es : Array Event} (hes : ∀ k e, es[k]? = some e → (MemAct.ofEvent e).touch? = none ∨ ((∃ a wr, e = ⟨.cell a, wr, true⟩ ∧ a.block = c.Wg) ∧ 0 < deafBehind (Deaf t g) (es.extract 0 k))) :
    RelW c (t ++ MemOp.ofEvents g fn pos es) g r := by
  refine h.app fun i hi hg x hx => ?_
  obtain ⟨op, ho, hox⟩ := touch_of hx
  have hj : (MemOp.ofEvents g fn pos es)[i - t.size]? = some op := by
    rw [Array.getElem?_append] at ho
    simpa [Nat.not_lt.2 hi] using ho
  rw [ofEvents_eq, Array.getElem?_map] at hj
  obtain ⟨e, he, rfl⟩ := Option.map_eq_some_iff.1 hj
  have hjs : i - t.size ≤ es.size := by
    rcases Nat.lt_or_ge (i - t.size) es.size with h' | h'
    · omega
    · rw [Array.getElem?_eq_none h'] at he; cases he
  rcases hes _ e he with h0 | ⟨⟨a, w, rfl, ha⟩, hd⟩
  · simp only at hox; rw [h0] at hox; cases hox
  · have hxl : x.loc = .cell a ∧ x.kind = .atomic := by
      cases w <;> simp [MemAct.ofEvent, MemAct.touch?] at hox <;> subst hox <;> exact ⟨rfl, rfl⟩
    refine ⟨⟨a, hxl.1, ha⟩, hxl.2, ?_⟩
    rintro ⟨g', hg', hdf⟩
    have hg1 : g' = g := by rw [hg] at hg'; exact (Option.some.inj hg').symm
    subst hg1
    have := deaf_inside t g' fn pos es (i - t.size) hjs
    rw [show t.size + (i - t.size) = i by omega, hdf] at this
    omega
/-- It says so now. -/
theorem RelW.new {z : MemOp} (hz : z.act = .mark (.releaseMerge (stA c.Wg))) (hd : Deaf t z.g = 0) (hp : c.p0 ≤ t.size) : RelW c (t ++ #[z]) z.g t.size := by
  have hq := size_one t z
  refine ⟨by rw [act?_of hq, hz], by simp [Trace.g?], heard_new hd, hp, fun i hi hg => ?_⟩
  obtain ⟨op, ho, _⟩ := Option.map_eq_some_iff.1 hg
  have := lt_size_of_getElem? ho
  simp at this
  omega

/-- ████ THE JOIN: the starter's 'acquire' of the group, behind all workers' last words. ████ -/
theorem TT.join (h : TT c c.W mo own pdo dn bx t) (hrel : ∀ k, k < c.W → ∃ r, RelW c t (c.e + 1 + k) r) {z : MemOp} (hg : z.g = 0) (hz : z.act = .mark (.acquire (stA c.Wg))) (hd : Deaf t 0 = 0) {B : Nat} (hB : c.Wg < B)
    (hlow : ∀ op ∈ t, op.act.low B) : Past (fun l => c.Shun l ∨ BxL c.Wg l) B (t ++ #[z]) := by
  have hn : z.act.touch? = none := by rw [hz]; rfl
  have hb := h.still (u := #[z]) (g0 := 0) (Nat.zero_le _) fun op hop => by simp at hop; subst hop; exact ⟨hg, by rw [hz]; simp [NoRel], hn⟩
  have hq := size_one t z
  have edge : ∀ k, k < c.W → ∃ r, RelW c t (c.e + 1 + k) r ∧ HappensBefore (t ++ #[z]) r t.size := fun k hk => by
    obtain ⟨r, hr⟩ := hrel k hk
    have hrl := lt_of_act? hr.act
    exact ⟨r, hr, .single (.inr ⟨.marked hrl (.inr (by rw [act?_old hrl]; exact hr.act)) (by rw [act?_of hq, hz]) (fun k' h5 _ e => (hb.norel k' _ (by have := hr.ge; omega) e).2.2 rfl), (heard_old hrl).2 hr.heard, heard_new (by rw [hg]; exact hd)⟩)⟩
  have hidx : ∀ i g', c.p0 ≤ i → t.g? i = some g' → c.e < g' → ∃ k, k < c.W ∧ g' = c.e + 1 + k := fun i g' h0 h1 h2 => by
    obtain ⟨op, ho, rfl⟩ := Option.map_eq_some_iff.1 h1
    have := h.gs i op h0 ho
    exact ⟨op.g - (c.e + 1), by omega, by omega⟩
  refine ⟨hb.nr, fun i x hx hm => ?_, fun i g' hgi hne hc => ?_, ?_, fun op hop => ?_⟩
  · rcases touch_cases hx with ⟨hi, hx'⟩ | ⟨op, hou, _, hox⟩
    · rcases h.past i x hx' hm with h1 | h1 | ⟨h0, g', h1, h2⟩
      · exact .inl (h1.app _)
      · exact .inr ⟨.inl h1.1, h1.2⟩
      · obtain ⟨k, hk, rfl⟩ := hidx i g' h0 h2 h1
        obtain ⟨r, hr, hed⟩ := edge k hk
        rcases Nat.lt_trichotomy i r with h3 | h3 | h3
        · left
          have hrl := lt_of_act? hr.act
          refine ⟨t.size, z, hq, hg, .inr (.trans (.single (.inl ⟨h3, c.e + 1 + k, by rw [g?_old hi]; exact h2, by rw [g?_old hrl]; exact hr.gg⟩)) hed)⟩
        · subst h3
          obtain ⟨op, ho, hox⟩ := touch_of hx'
          have := hr.act
          rw [act?_of ho] at this
          rw [Option.some.inj this] at hox
          cases hox
        · obtain ⟨h4, h5, _⟩ := hr.after i h3 h2 x hx'
          exact .inr ⟨.inr h4, h5⟩
    · simp at hou; subst hou; rw [hn] at hox; cases hox
  · obtain ⟨op, ho, hog⟩ := Option.map_eq_some_iff.1 hgi
    rcases getElem?_append_cases ho with ⟨hi, ho'⟩ | ⟨_, hou⟩
    · have hgi' : t.g? i = some g' := by rw [← g?_old (u := #[z]) hi]; exact hgi
      rcases (show (g' ≤ c.e ∨ i < c.p0) ∨ (c.p0 ≤ i ∧ c.e < g') by omega) with h1 | ⟨h0, h1⟩
      · exact hb.over i g' hgi hne h1 hc
      · obtain ⟨k, hk, rfl⟩ := hidx i g' h0 hgi' h1
        obtain ⟨r, hr, hed⟩ := edge k hk
        have hrl := lt_of_act? hr.act
        have hle : i ≤ r := Nat.le_of_not_lt fun hlt => by
          obtain ⟨x, hx, hmem, hk'⟩ := (counts_old hi).1 hc
          obtain ⟨_, h5, h6⟩ := hr.after i hlt hgi' x hx
          rcases hk' with h7 | h7
          · exact h7 h5
          · exact h6 h7
        refine ⟨t.size, by simp only [Trace.g?, hq, Option.map_some, hg], ?_⟩
        rcases Nat.lt_or_ge i r with hlt | hge
        · exact .trans (.single (.inl ⟨hlt, c.e + 1 + k, hgi, by rw [g?_old hrl]; exact hr.gg⟩)) hed
        · obtain rfl : i = r := by omega
          exact hed
    · simp at hou
      subst hou
      exact absurd (hog.symm.trans hg) hne
  · rw [Deaf_push]
    simp only [deafStep, hz]
    exact hd
  · rcases Array.mem_append.1 hop with h1 | h1
    · exact hlow op h1
    · simp at h1
      subst h1
      rw [hz]
      exact hB
end
end Go.Proofs.Ytnlopklbbajlbaa.Sw

namespace Go.Proofs.Ytnlopklbbajlbaa.Sw
open Go Go.Conc Go.ConcN
open Go.ConcR (stA smA DC0)
open Go.ConcM (OsLater)

def enc (w : MuW) : Int := ((w.l.toNat + 2 * w.k.toNat + 4 * w.s.toNat + 8 * w.n : Nat) : Int)
def seV (s : Sh) : Value := if s.st = 2 then .map (some s.mp) else .map none
/-- The abstract side of a phase. -/
structure AP where
  W : Nat
  n : Nat
  B : Nat
  nm : Nat → ByteArray
  S0 : List ByteArray

section
variable (tA tW tB : TypeId) (c : TC)
/-- THE SHARED BLOCKS HOLD WHAT s SAYS. -/
structure ShAt (w : World) (s : Sh) : Prop where
  a : w.heap[c.A]? = some (.cells #[.int .u32 (if s.done then 1 else 0), .int .i32 (enc s.mo.w), .int .u32 s.mo.sem, .int .i32 (enc s.ml.w), .int .u32 s.ml.sem, seV s, .int .i64 s.num] tA)
  g : w.heap[c.Wg]? = some (.cells #[.int .u64 ((s.wv * 4294967296 + s.ww : Nat) : Int), .int .u32 (s.ws : Int)] tW)
  f : ∃ cs : Array Value, w.heap[c.F]? = some (.cells cs tB) ∧ cs.size = c.n ∧ ∀ i, i < c.n → cs[i]? = some (.bool (s.fr i))
  m : 1 ≤ s.st → s.mp < w.heap.size ∧ ∃ es ck, w.heap[s.mp]? = some (.map es ck) ∧ es.toList.map (·.key) = s.con.map Value.string
  low : c.Low ≤ w.heap.size
  mo : 1 ≤ s.st → c.M0 = some s.mp ∨ (c.M0 = none ∧ c.Low ≤ s.mp)
  z : s.st = 0 → s.con = [] ∧ c.M0 = none

/-- What nobody turns. -/
def Kl (b : Nat) : Prop := b < c.Low ∧ b ≠ c.A ∧ b ≠ c.Wg ∧ b ≠ c.F ∧ c.M0 ≠ some b
/-- WHAT A GOROUTINE SUFFERS whose own block is o. -/
structure RK (o : Option Nat) (w w₁ : World) : Prop where
  tape : w₁.tape = w.tape
  output : w₁.output = w.output
  os : OsLater w.os w₁.os
  size : w.heap.size ≤ w₁.heap.size
  low : ∀ b, Kl c b → w₁.heap[b]? = w.heap[b]?
  box : ∀ b, o = some b → w₁.heap[b]? = w.heap[b]?
  live : (∃ s, ShAt tA tW tB c w s) → ∃ s, ShAt tA tW tB c w₁ s
  seen : ∀ m, w.cell? (seA c) = some (.map (some m)) → w₁.cell? (seA c) = some (.map (some m))
/-- WHAT A STEP DOES, s having been there; o: the block that it may write. -/
structure Eff (s : Sh) (o : Option Nat) (w w' : World) : Prop where
  tape : w'.tape = w.tape
  output : w'.output = w.output
  os : OsLater w.os w'.os
  size : w.heap.size ≤ w'.heap.size
  block : ∀ b, b < w.heap.size → b ≠ c.A → b ≠ c.Wg → b ≠ c.F → (1 ≤ s.st → b ≠ s.mp) → o ≠ some b → w'.heap[b]? = w.heap[b]?

def rdE (a : Addr) : Event := ⟨.cell a, false, true⟩
def wrE (a : Addr) : Event := ⟨.cell a, true, true⟩
def mkE (m : Mark) : Event := ⟨.mark m, false, true⟩
def nmA : Addr := ⟨c.A, 6, none⟩
def msA (b : Bool) : Addr := ⟨c.A, if b then 2 else 4, none⟩
def Atm (a : Addr) (es : Array Event) : Prop := ∀ e ∈ es, ∃ x, e = ⟨.cell a, x, true⟩
/-- WHAT A WORKER's STEP LISTS. -/
def EvW (T : Wk) (s : Sh) (es : Array Event) : Prop :=
  if 0 < T.c then ∀ e ∈ es, ∃ a, e = ⟨.cell a, false, false⟩ ∧ (RoL c (.cell a) ∨ a.block = T.bx)
  else match T.pc with
  | .dn0 | .dn1 => es = #[rdE (dnA c)]
  | .md | .ud | .wk => es = #[mkE .disable]
  | .me | .ue => es = #[mkE .enable]
  | .ma => es = #[mkE (.acquire (mxA c T.b))]
  | .ur => es = #[mkE (.releaseMerge (mxA c T.b))]
  | .wr => es = #[mkE (.releaseMerge (stA c.Wg))]
  | .m0 | .mc1 | .mc2 | .ma1 | .u0 | .uc => Atm (mxA c T.b) es
  | .ms1 | .us => es = semEvents (msA c T.b)
  | .sl => es = #[⟨.cell (seA c), true, false⟩]
  | .dst => es = #[wrE (dnA c)]
  | .lk1 | .ia1 | .ibr => es = #[⟨.cell (seA c), false, false⟩]
  | .lk2 | .in2 => ∀ e ∈ es, ∃ x, e = ⟨.obj s.mp, x, false⟩
  | .ian | .iba => Atm (nmA c) es
  | .wf => ∀ e ∈ es, e = ⟨.cell ⟨c.F, T.i, none⟩, true, false⟩
  | .d1 | .d2 | .d3 => Atm (stA c.Wg) es
  | .d4 => es = semEvents (smA c.Wg)
  | _ => es = #[]
/-- .. and the starter's. -/
def EvS (t : St) (es : Array Event) : Prop :=
  match t.pc with
  | .so => ∀ e ∈ es, ∃ a, e = ⟨.cell a, true, false⟩ ∧ a.block = t.bx
  | .sd | .kd => es = #[mkE .disable]
  | .se | .ke => es = #[mkE .enable]
  | .sa | .w1 | .w2 | .w4 => Atm (stA c.Wg) es
  | .sr => es = #[mkE (.read (smA c.Wg))]
  | .wx => es = #[mkE (.write (smA c.Wg))]
  | .w3 => es = semEvents (smA c.Wg)
  | .aq => es = #[mkE (.acquire (stA c.Wg))]
  | _ => es = #[]
/-- How many of its 'disable's stand open. -/
def dfW (T : Wk) : Nat :=
  match T.pc with
  | .m0 | .mr0 | .msq | .mc1 | .mr1 | .mc2 | .mt1 | .ms1 | .mt2 | .mr2 | .ma1 | .mr3 | .me | .u0 | .uc | .ux | .us | .ue | .d1 | .d2 | .d3 | .d4 => 1
  | _ => 0
def dfS (t : St) : Nat :=
  match t.pc with
  | .sa | .sr | .se | .w1 | .w2 | .wx | .w3 | .w4 | .ke => 1
  | _ => 0
/-- What is known of a worker's step before it is taken. -/
structure FitW (q : AP) (T : Wk) (s : Sh) : Prop where
  bnd : ∀ b, (s.mx b).w.n ≤ q.B ∧ (s.mx b).sem ≤ q.B
  locM : LocM q.B T (s.mx T.b)
  locO : LocO T s
  locC : LocC q.nm q.S0 T s
  st2 : s.done = true → s.st = 2
  i : item T.pc = true → T.i < q.n
  hold : role T = 1 → (s.mx T.b).w.l = true
  tk : role T = 3 → ((s.mx T.b).w.s = true → (s.mx T.b).w.k = false ∧ (s.mx T.b).w.l = false ∧ 0 < (s.mx T.b).w.n)
  awk : role T = 2 → (s.mx T.b).w.s = false ∧ (s.mx T.b).w.k = true
  tkn : role T = 3 → (s.mx T.b).w.s = false → (s.mx T.b).w.k = true
  ad : role T = 4 → (s.mx T.b).w.s = true ∧ (s.mx T.b).w.k = false ∧ (s.mx T.b).w.l = false ∧ 0 < (s.mx T.b).w.n
  d1 : T.pc = .d1 → 1 ≤ s.wv ∧ s.wv ≤ q.W ∧ s.ww ≤ 1
  d2 : (T.pc = .d2 ∨ T.pc = .d3) → s.wv = 0 ∧ s.ww = 1 ∧ s.ws = 0
  d4 : T.pc = .d4 → s.wv = 0 ∧ s.ww = 0 ∧ s.ws = 0
  nb : s.num ≤ q.S0.length + q.n + q.W
def FitS (q : AP) (t : St) (s : Sh) : Prop := ∃ p m2 m4, p ≤ q.W ∧ Grp q.W t p m2 m4 s
/-- Its own block. -/
def bxS (t : St) : Option Nat :=
  match t.pc with
  | .so | .sd | .sa | .sr | .se | .sg => some t.bx
  | _ => none
end

section
variable (P : Program) (tA tW tB : TypeId) (c : TC) (q : AP)

def AfterW (Nx : Wk → Goroutine → World → Prop) (T : Wk) (g : Goroutine) (w : World) : Prop :=
  if T.pc = .quit then ∃ n, QuitsD P n 1 g else ∃ m, Goes P false (RK tA tW tB c (some T.bx)) DC0 (Nx T) m g w
/-- ████ A WORKER's STOP. ████ -/
def StpW (Nx : Wk → Goroutine → World → Prop) (T : Wk) (g : Goroutine) (w : World) : Prop :=
  g.status = .running ∧ g.offers = none ∧ (T.c = 0 → (T.pc = .us ∨ T.pc = .d4) → mayWake P g = true) ∧
  ∀ s, ShAt tA tW tB c w s → FitW q T s →
    (waitW T s → stepG P false g w = .go { g with status := .blocked } w #[]) ∧
    (¬ waitW T s → ∃ T' s' g' w' es, Mv q.W q.n q.nm T s T' s' ∧ stepG P false g w = .go g' w' es ∧ ShAt tA tW tB c w' s' ∧ Eff c s none w w' ∧ EvW c T s es ∧
      (if T.c = 0 ∧ (T.pc = .bx ∨ T.pc = .al) then w'.heap.size = w.heap.size + 1 ∧ (T.pc = .bx → T'.bx = w.heap.size) ∧ (T.pc = .al → s'.mp = w.heap.size) else w'.heap.size = w.heap.size) ∧
      AfterW P tA tW tB c Nx T' g' w')
/-- STOPS BY DEPTH. -/
def AtW : Nat → Wk → Goroutine → World → Prop
  | 0, _, _, _ => True
  | k + 1, T, g, w => StpW P tA tW tB c q (AtW k) T g w
abbrev GoesW (T : Wk) (k m : Nat) (g : Goroutine) (w : World) : Prop := Goes P false (RK tA tW tB c (some T.bx)) DC0 (AtW P tA tW tB c q (k + 1) T) m g w

variable (Anch : Sh → Goroutine → World → Prop)
def AfterS (Nx : St → Goroutine → World → Prop) (t : St) (s : Sh) (g : Goroutine) (w : World) : Prop :=
  if t.pc = .fin then Anch s g w else ∃ m, Goes P true (RK tA tW tB c (bxS t)) DC0 (Nx t) m g w
/-- ████ A STOP OF THE STARTER's. ████ -/
def StpS (Nx : St → Goroutine → World → Prop) (t : St) (g : Goroutine) (w : World) : Prop :=
  g.status = .running ∧ g.offers = none ∧
  ∀ s, ShAt tA tW tB c w s → FitS q t s →
    (waitS t s → stepG P true g w = .go { g with status := .blocked } w #[]) ∧
    (¬ waitS t s → if t.pc = .sg then
        ∃ T g' child, New q.n t.j T ∧ T.c ≤ 16 ∧ T.bx = t.bx ∧ stepG P true g w = .spawn g' child w #[] ∧ (∀ k, ∃ m, GoesW P tA tW tB c q T k m child w) ∧
          AfterS P tA tW tB c Anch Nx { t with pc := if t.j + 1 < q.W then .sb else .kd, j := t.j + 1 } s g' w
      else ∃ t' s' g' w' es, StepS q.W t s t' s' ∧ stepG P true g w = .go g' w' es ∧ ShAt tA tW tB c w' s' ∧ Eff c s (bxS t) w w' ∧ EvS c t es ∧
        (if t.pc = .sb then w'.heap.size = w.heap.size + 1 ∧ t'.bx = w.heap.size else w'.heap.size = w.heap.size) ∧ AfterS P tA tW tB c Anch Nx t' s' g' w')
def AtS : Nat → St → Goroutine → World → Prop
  | 0, _, _, _ => True
  | k + 1, t, g, w => StpS P tA tW tB c q Anch (AtS k) t g w
abbrev GoesS (t : St) (k m : Nat) (g : Goroutine) (w : World) : Prop := Goes P true (RK tA tW tB c (bxS t)) DC0 (AtS P tA tW tB c q Anch (k + 1) t) m g w
end

section
variable {tA tW tB : TypeId} {c : TC} {w w' w₁ w₂ : World} {s s' : Sh} {o : Option Nat}
theorem RK.refl (o : Option Nat) (w : World) : RK tA tW tB c o w w := ⟨rfl, rfl, .refl _, Nat.le_refl _, fun _ _ => rfl, fun _ _ => rfl, id, fun _ => id⟩
theorem RK.trans (h : RK tA tW tB c o w w₁) (k : RK tA tW tB c o w₁ w₂) : RK tA tW tB c o w w₂ :=
  ⟨k.tape.trans h.tape, k.output.trans h.output, h.os.trans k.os, Nat.le_trans h.size k.size, fun b hb => (k.low b hb).trans (h.low b hb), fun b hb => (k.box b hb).trans (h.box b hb), fun l => k.live (h.live l), fun m x => k.seen m (h.seen m x)⟩
theorem ShAt.of_heap (h : ShAt tA tW tB c w s) (e : w'.heap = w.heap) : ShAt tA tW tB c w' s := by
  obtain ⟨h1, h2, h3, h4, h5, h6, h7⟩ := h
  exact ⟨by rw [e]; exact h1, by rw [e]; exact h2, by rw [e]; exact h3, by rw [e]; exact h4, by rw [e]; exact h5, h6, h7⟩
theorem RK.at (o : Option Nat) (w : World) (d : Nat) : RK tA tW tB c o w (w.at d) := ⟨rfl, rfl, .refl _, Nat.le_refl _, fun _ _ => rfl, fun _ _ => rfl, fun ⟨s, hs⟩ => ⟨s, hs.of_heap rfl⟩, fun _ => id⟩
/-- WHAT ONE DOES IS WITHIN WHAT ANOTHER SUFFERS. -/
theorem RK.of_eff {o' : Option Nat} (hs : ShAt tA tW tB c w s) (e : Eff c s o' w w') (hs' : ShAt tA tW tB c w' s') (hb : ∀ b, o = some b → c.Low ≤ b ∧ b < w.heap.size ∧ (1 ≤ s.st → b ≠ s.mp) ∧ o' ≠ some b) (ho' : ∀ b, o' = some b → c.Low ≤ b) (hm : s.st = 2 → s'.st = 2 ∧ s'.mp = s.mp) : RK tA tW tB c o w w' := by
  refine ⟨e.tape, e.output, e.os, e.size, fun b hk => ?_, fun b hk => ?_, fun _ => ⟨s', hs'⟩, fun m hc => ?_⟩
  · obtain ⟨k1, k2, k3, k4, k5⟩ := hk
    refine e.block b (Nat.lt_of_lt_of_le k1 hs.low) k2 k3 k4 (fun h1 h2 => ?_) (fun h => by have := ho' b h; omega)
    rcases hs.mo h1 with h3 | ⟨_, h3⟩
    · exact k5 (h2 ▸ h3)
    · omega
  · obtain ⟨k1, k2, k3, k4⟩ := hb b hk
    have := c.la
    have := c.lw
    have := c.lf
    exact e.block b k2 (by omega) (by omega) (by omega) k3 k4
  · have h1 : w.cell? (seA c) = some (seV s) := by simp [World.cell?, seA, hs.a]
    have h2 : w'.cell? (seA c) = some (seV s') := by simp [World.cell?, seA, hs'.a]
    rw [h1] at hc
    unfold seV at hc h2
    by_cases h3 : s.st = 2
    · rw [if_pos h3] at hc
      rw [if_pos (hm h3).1, (hm h3).2] at h2
      rw [h2]; exact hc
    · rw [if_neg h3] at hc
      cases hc
/-- A map that is laid stays. -/
theorem st_keep {W n : Nat} {nm : Nat → ByteArray} {T X : Wk} (h : Step W n nm T s X s') (hO : LocO T s) (h2 : s.st = 2) : s'.st = 2 ∧ s'.mp = s.mp := by
  have r := step_rest h
  have h1 : T.pc ≠ .al := fun e => by simp only [LocO, e] at hO; omega
  refine ⟨by rw [r.st, if_neg h1]; split <;> simp [h2], r.mp h1⟩
theorem mv_keep {W n : Nat} {nm : Nat → ByteArray} {T X : Wk} (h : Mv W n nm T s X s') (hO : LocO T s) (h2 : s.st = 2) : s'.st = 2 ∧ s'.mp = s.mp := by
  rcases h with ⟨_, rfl, _⟩ | ⟨_, X, c', hst, _⟩
  · exact ⟨h2, rfl⟩
  · exact st_keep hst hO h2
end
end Go.Proofs.Ytnlopklbbajlbaa.Sw
