/- LightOnce: the walk's words: 'GU': whatever the world that meets p, the goroutine goes on to a stop; each step is read off the goal. -/
import Derived.Test.YtnlopklbbajlbaaSwV
import Derived.Conc.MuWords
import Derived.Test.YtnlopklbbajlbaaChecked
namespace Go.Proofs.Ytnlopklbbajlbaa.Sw
open Go Go.Conc Go.ConcN Go.RowKit
open Go.ConcR (DC0)
open Go.ConcR.Gen (base_kind baseD_kind)

/-- FROM EVERY WORLD THAT MEETS p THE GOROUTINE GOES ON TO A STOP. -/
def GU (P : Program) (main : Bool) (R : World → World → Prop) (Stop : Goroutine → World → Prop) (p : World → Prop) (g : Goroutine) : Prop := ∃ m, ∀ w, p w → Goes P main R DC0 Stop m g w
/-- p is kept by what one suffers. -/
abbrev Kept (R : World → World → Prop) (p : World → Prop) : Prop := ∀ w w₁, p w → R w w₁ → p w₁

section
variable {P : Program} {main : Bool} {R : World → World → Prop} {Stop : Goroutine → World → Prop} {p : World → Prop}
theorem GU.stop (hp : Kept R p) {g : Goroutine} (h : ∀ w, p w → Stop g w) : GU P main R Stop p g := ⟨0, fun w hw w₁ r => h w₁ (hp w w₁ hw r)⟩
theorem GU.step (hp : Kept R p) {g g' : Goroutine} (hs : g.status = .running) (h : ∀ w, p w → (stepG P main g w).goes fun x w' es => x = g' ∧ w' = w ∧ es = #[]) (n : GU P main R Stop p g') : GU P main R Stop p g := by
  obtain ⟨m, hm⟩ := n
  refine ⟨m + 1, fun w hw => Goes.step hs fun w₁ r => ?_⟩
  have := h w₁ (hp w w₁ hw r)
  revert this
  cases stepG P main g w₁ <;> simp only [GStep.goes] <;> intro this
  all_goals first
    | (obtain ⟨rfl, rfl, rfl⟩ := this; exact ⟨⟨rfl, rfl⟩, hm _ (hp w _ hw r)⟩)
    | exact this.elim
theorem GU.ctl (hp : Kept R p) {g g' : Goroutine} (hs : g.status = .running) (h : ∀ w, stepG P main g w = .go g' w) (n : GU P main R Stop p g') : GU P main R Stop p g :=
  .step hp hs (fun w _ => by rw [h w]; exact ⟨rfl, rfl, rfl⟩) n
variable {b : Frame} {a : Act} {k : List Item} {cs : List Frame}
theorem GU.value (hp : Kept R p) {ops : Array Oper} {i : Nat} {rest : List Nat} {o : Oper} (v : Value) (ho : ops[i]? = some o) (hw : Region.wanted o (yielded ops a.tmps) = true) (hk : b.kind ≠ .early)
    (hr : ∀ w, (execOp a.eval o).run P w = .ok (.value v) w) (he : ∀ w, (execOp a.eval o).events P w #[] = #[])
    (n : GU P main R Stop p (G (b.at (a.put o.dst v) (.inRegion ops rest :: k)) cs)) : GU P main R Stop p (G (b.at a (.inRegion ops (i :: rest) :: k)) cs) :=
  .ctl hp rfl (fun w => by rw [stepG_value ho hw hk (hr w)]; unfold listed; rw [he w, seen_none]) n
/-- What it reads is known. -/
theorem GU.valueP (hp : Kept R p) {ops : Array Oper} {i : Nat} {rest : List Nat} {o : Oper} (v : Value) (ho : ops[i]? = some o) (hw : Region.wanted o (yielded ops a.tmps) = true) (hk : b.kind ≠ .early)
    (hr : ∀ w, p w → (execOp a.eval o).run P w = .ok (.value v) w) (he : ∀ w, p w → (execOp a.eval o).events P w #[] = #[])
    (n : GU P main R Stop p (G (b.at (a.put o.dst v) (.inRegion ops rest :: k)) cs)) : GU P main R Stop p (G (b.at a (.inRegion ops (i :: rest) :: k)) cs) :=
  .step hp rfl (fun w h => by rw [stepG_value ho hw hk (hr w h)]; unfold listed; rw [he w h, seen_none]; exact ⟨rfl, rfl, rfl⟩) n
theorem GU.unwanted (hp : Kept R p) {ops : Array Oper} {i : Nat} {rest : List Nat} {o : Oper} (ho : ops[i]? = some o) (hw : Region.wanted o (yielded ops a.tmps) = false)
    (n : GU P main R Stop p (G (b.at (a.put o.dst undef) (.inRegion ops rest :: k)) cs)) : GU P main R Stop p (G (b.at a (.inRegion ops (i :: rest) :: k)) cs) :=
  .ctl hp rfl (fun _ => stepG_unwanted ho hw) n
theorem GU.call (hp : Kept R p) {ops : Array Oper} {i : Nat} {rest : List Nat} {o : Oper} {f : FuncId} {fn : Func} {c : Code} {args : Array Operand} {ats : Array TypeId}
    (ho : ops[i]? = some o) (hw : Region.wanted o (yielded ops a.tmps) = true) (hk : b.kind ≠ .early) (hop : o.op = .call { callee := .value (.func f), args, argTypes := ats })
    (hf : P.funcs[f]? = some fn) (hname : (fn.name == "runtime.NumGoroutine") = false) (hb : fn.body = some c)
    (n : GU P main R Stop p (G ((Go.Conc.base f).at { tmps := args.map a.eval ++ Array.replicate (fn.ntmps - (args.map a.eval).size) undef, defers := [] } [.code c]) (b.at a (.inRegion ops (i :: rest) :: k) :: cs))) :
    GU P main R Stop p (G (b.at a (.inRegion ops (i :: rest) :: k)) cs) :=
  .step hp rfl (fun _ _ => goes_call ho hw hk hop hf hname hb ⟨rfl, rfl, rfl⟩) n
variable {b₀ : Frame} {a₀ : Act} {todo : List Item} {fn : Func}
theorem GU.leave0 (hp : Kept R p) {ops : Array Oper} {i : Nat} {rest : List Nat} (hn : b.kind = .normal) (hd : a.defers = []) (hf : P.funcs[b.fn]? = some fn) (hr : fn.results = #[])
    (n : GU P main R Stop p (G (b₀.at (a₀.put ((ops[i]?).bind (·.dst)) (.tuple #[])) (.inRegion ops rest :: k)) cs)) :
    GU P main R Stop p (G { b.at a todo with mode := .returning } (b₀.at a₀ (.inRegion ops (i :: rest) :: k) :: cs)) :=
  .step hp rfl (fun _ _ => goes_leave0 hn hd hf hr ⟨rfl, rfl, rfl⟩) n
theorem GU.leave1 (hp : Kept R p) {ops : Array Oper} {i : Nat} {rest : List Nat} {t : Tmp} (hn : b.kind = .normal) (hd : a.defers = []) (hf : P.funcs[b.fn]? = some fn) (hr : fn.results = #[.tmp t])
    (n : GU P main R Stop p (G (b₀.at (a₀.put ((ops[i]?).bind (·.dst)) (a.tmps.getD t undef)) (.inRegion ops rest :: k)) cs)) :
    GU P main R Stop p (G { b.at a todo with mode := .returning } (b₀.at a₀ (.inRegion ops (i :: rest) :: k) :: cs)) :=
  .step hp rfl (fun _ _ => goes_leave1 hn hd hf hr ⟨rfl, rfl, rfl⟩) n
/-- The return of a deferred call. -/
theorem GU.leaveD (hp : Kept R p) {c : Frame} (hn : b.kind = .deferred) (hd : a.defers = []) (hf : P.funcs[b.fn]? = some fn) (hr : fn.results = #[]) (hc : c.mode = .returning)
    (n : GU P main R Stop p (G c cs)) : GU P main R Stop p (G { b.at a todo with mode := .returning } (c :: cs)) :=
  .ctl hp rfl (fun w => stepG_leave_deferred hn hd hf (results_none hr _ P w) (events_results_none hr _ _) hc) n
/-- A deferred call is entered. -/
theorem GU.unwind (hp : Kept R p) {f : FuncId} {args : Array Value} {ds : List Deferred} {c : Code} (hd : a.defers = dcall f args :: ds) (hf : P.funcs[f]? = some fn) (hname : (fn.name == "runtime.NumGoroutine") = false) (hb : fn.body = some c)
    (n : GU P main R Stop p (G ((baseD f).at { tmps := args ++ Array.replicate (fn.ntmps - args.size) undef, defers := [] } [.code c]) ({ b.at ⟨a.tmps, ds⟩ todo with mode := .returning } :: cs))) :
    GU P main R Stop p (G { b.at a todo with mode := .returning } cs) :=
  .ctl hp rfl (fun _ => stepG_unwind_enter hd hf hname hb) n
/-- An entry that looks at nothing. -/
theorem GU.entry (hp : Kept R p) {ops : Array Oper} {i : Nat} {rest : List Nat} {o : Oper} {f : FuncId} {args : Array Operand} {ats : Array TypeId} (v : Value) (ho : ops[i]? = some o) (hw : Region.wanted o (yielded ops a.tmps) = true) (hk : b.kind ≠ .early) (hop : o.op = .call { callee := .value (.func f), args, argTypes := ats })
    (hf : P.funcs[f]? = some fn) (hname : (fn.name == "runtime.NumGoroutine") = false) (hb : fn.body.isNone = true) (hn : Extern.findNext fn = none) (he : Extern.find fn = some (fun _ => pure v))
    (n : GU P main R Stop p (G (b.at (a.put o.dst v) (.inRegion ops rest :: k)) cs)) : GU P main R Stop p (G (b.at a (.inRegion ops (i :: rest) :: k)) cs) :=
  .ctl hp rfl (fun _ => stepG_entry_pure v ho hw hk hop hf hname hb hn he) n
end

/-- .. A FAMILY of goroutines: the fuel hangs on none of them (a loaded value that nobody uses). -/
def GUf (P : Program) (main : Bool) (R : World → World → Prop) (Stop : Goroutine → World → Prop) (p : World → Prop) (g : Int → Goroutine) : Prop := ∃ m, ∀ v w, p w → Goes P main R DC0 Stop m (g v) w
section
variable {P : Program} {main : Bool} {R : World → World → Prop} {Stop : Goroutine → World → Prop} {p : World → Prop}
theorem GUf.stop (hp : Kept R p) {g : Int → Goroutine} (h : ∀ v w, p w → Stop (g v) w) : GUf P main R Stop p g := ⟨0, fun v w hw w₁ r => h v w₁ (hp w w₁ hw r)⟩
theorem GUf.ctl (hp : Kept R p) {g g' : Int → Goroutine} (hs : ∀ v, (g v).status = .running) (h : ∀ v w, p w → stepG P main (g v) w = .go (g' v) w) (n : GUf P main R Stop p g') : GUf P main R Stop p g := by
  obtain ⟨m, hm⟩ := n
  refine ⟨m + 1, fun v w hw => Goes.step (hs v) fun w₁ r => ?_⟩
  rw [h v w₁ (hp w w₁ hw r)]
  exact ⟨⟨rfl, rfl⟩, hm v w₁ (hp w w₁ hw r)⟩
theorem GU.fam (hp : Kept R p) {g : Goroutine} {g' : Int → Goroutine} (hs : g.status = .running) (h : ∀ w, p w → ∃ v, stepG P main g w = .go (g' v) w) (n : GUf P main R Stop p g') : GU P main R Stop p g := by
  obtain ⟨m, hm⟩ := n
  refine ⟨m + 1, fun w hw => Goes.step hs fun w₁ r => ?_⟩
  obtain ⟨v, e⟩ := h w₁ (hp w w₁ hw r)
  rw [e]
  exact ⟨⟨rfl, rfl⟩, hm v w₁ (hp w w₁ hw r)⟩
end

end Go.Proofs.Ytnlopklbbajlbaa.Sw

namespace Go.Proofs.Ytnlopklbbajlbaa.Sw
open Go Go.Conc Go.ConcN Go.RowKit
open Go.ConcM (OsLater)
open Go.ConcR (DC0 stA smA)

section
variable {c : TC} {w w' : World} {s s' : Sh}
theorem heap_set {a : Addr} {v : Value} {cs : Array Value} {t : TypeId} {fz : Nat × Nat} (h : w.heap[a.block]? = some (.cells cs t fz)) (hs : a.spot = none) : (w.setCell a v).heap[a.block]? = some (.cells (cs.setIfInBounds a.off v) t fz) := by
  simp [World.setCell, Array.getElem?_modify, h, hs]
theorem Eff.refl (s : Sh) (o : Option Nat) (w : World) : Eff c s o w w := ⟨rfl, rfl, .refl _, Nat.le_refl _, fun _ _ _ _ _ _ _ => rfl⟩
theorem Eff.later (s : Sh) (o : Option Nat) (w : World) : Eff c s o w w.later := ⟨rfl, rfl, ⟨w.tick, rfl⟩, Nat.le_refl _, fun _ _ _ _ _ _ _ => rfl⟩
theorem Eff.asked (s : Sh) (o : Option Nat) (w : World) : Eff c s o w w.asked := ⟨rfl, rfl, .refl _, Nat.le_refl _, fun _ _ _ _ _ _ _ => rfl⟩
theorem Eff.set (s : Sh) (o : Option Nat) (w : World) (a : Addr) (v : Value) (h : a.block = c.A ∨ a.block = c.Wg ∨ a.block = c.F) : Eff c s o w (w.setCell a v) :=
  have A := aside_setCell w a v
  ⟨A.tape, A.output, by rw [A.os]; exact .refl _, Nat.le_of_eq A.size.symm, fun b _ h1 h2 h3 _ _ => A.block b (by rcases h with h | h | h <;> rw [h] <;> assumption)⟩

def cellsA (s : Sh) : Array Value := #[.int .u32 (if s.done then 1 else 0), .int .i32 (enc s.mo.w), .int .u32 s.mo.sem, .int .i32 (enc s.ml.w), .int .u32 s.ml.sem, seV s, .int .i64 s.num]
def cellsG (s : Sh) : Array Value := #[.int .u64 ((s.wv * 4294967296 + s.ww : Nat) : Int), .int .u32 (s.ws : Int)]
theorem mp_ne {tA tW tB : TypeId} (h : ShAt tA tW tB c w s) (h1 : 1 ≤ s.st) : s.mp ≠ c.A ∧ s.mp ≠ c.Wg ∧ s.mp ≠ c.F := by
  obtain ⟨_, es, ck, e, _⟩ := h.m h1
  obtain ⟨cs, f, _⟩ := h.f
  refine ⟨fun x => ?_, fun x => ?_, fun x => ?_⟩
  · rw [x, h.a] at e; cases e
  · rw [x, h.g] at e; cases e
  · rw [x, f] at e; cases e
variable {tA tW tB : TypeId}
theorem ShAt.setA (h : ShAt tA tW tB c w s) {off : Nat} {v : Value} (ha : (cellsA s).setIfInBounds off v = cellsA s') (e : s'.wv = s.wv ∧ s'.ww = s.ww ∧ s'.ws = s.ws ∧ s'.fr = s.fr ∧ s'.mp = s.mp ∧ s'.con = s.con) (hst : 1 ≤ s'.st → 1 ≤ s.st) (hz : s'.st = 0 → s.st = 0) : ShAt tA tW tB c (w.setCell ⟨c.A, off, none⟩ v) s' := by
  obtain ⟨e1, e2, e3, e4, e5, e6⟩ := e
  have A := aside_setCell w ⟨c.A, off, none⟩ v
  refine ⟨?_, ?_, ?_, fun x => ?_, by rw [A.size]; exact h.low, fun x => by rw [e5]; exact h.mo (hst x), fun x => by rw [e6]; exact h.z (hz x)⟩
  · have := heap_set (a := ⟨c.A, off, none⟩) (v := v) h.a rfl
    rw [show (w.setCell ⟨c.A, off, none⟩ v).heap[c.A]? = _ from this]
    exact congrArg (fun x => some (Obj.cells x tA)) ha
  · rw [A.block _ (by show c.Wg ≠ c.A; exact c.aW.symm), e1, e2, e3]; exact h.g
  · rw [A.block _ (by show c.F ≠ c.A; exact c.aF.symm), e4]; exact h.f
  · obtain ⟨h1, es, ck, h2, h3⟩ := h.m (hst x)
    rw [e5, e6]
    exact ⟨by rw [A.size]; exact h1, es, ck, by rw [A.block _ (by show s.mp ≠ c.A; exact (mp_ne h (hst x)).1)]; exact h2, h3⟩
theorem ShAt.setG (h : ShAt tA tW tB c w s) {off : Nat} {v : Value} (ha : (cellsG s).setIfInBounds off v = cellsG s') (e : cellsA s' = cellsA s ∧ s'.fr = s.fr ∧ s'.mp = s.mp ∧ s'.con = s.con ∧ s'.st = s.st) : ShAt tA tW tB c (w.setCell ⟨c.Wg, off, none⟩ v) s' := by
  obtain ⟨e1, e4, e5, e6, e7⟩ := e
  have A := aside_setCell w ⟨c.Wg, off, none⟩ v
  refine ⟨?_, ?_, ?_, fun x => ?_, by rw [A.size]; exact h.low, fun x => by rw [e5]; exact h.mo (e7 ▸ x), fun x => by rw [e6]; exact h.z (e7 ▸ x)⟩
  · rw [A.block _ (by show c.A ≠ c.Wg; exact c.aW)]
    exact h.a.trans (congrArg (fun x => some (Obj.cells x tA)) e1.symm)
  · have := heap_set (a := ⟨c.Wg, off, none⟩) (v := v) h.g rfl
    rw [show (w.setCell ⟨c.Wg, off, none⟩ v).heap[c.Wg]? = _ from this]
    exact congrArg (fun x => some (Obj.cells x tW)) ha
  · rw [A.block _ (by show c.F ≠ c.Wg; exact c.fW), e4]; exact h.f
  · obtain ⟨h1, es, ck, h2, h3⟩ := h.m (e7 ▸ x)
    rw [e5, e6]
    exact ⟨by rw [A.size]; exact h1, es, ck, by rw [A.block _ (by show s.mp ≠ c.Wg; exact (mp_ne h (e7 ▸ x)).2.1)]; exact h2, h3⟩
theorem ShAt.setMx (h : ShAt tA tW tB c w s) (b : Bool) (x : MuW) : ShAt tA tW tB c (w.setCell (mxA c b) (.int .i32 (enc x))) (s.put b ⟨x, (s.mx b).sem⟩) := by
  cases b
  · exact h.setA (off := 3) rfl ⟨rfl, rfl, rfl, rfl, rfl, rfl⟩ id id
  · exact h.setA (off := 1) rfl ⟨rfl, rfl, rfl, rfl, rfl, rfl⟩ id id
theorem ShAt.setMs (h : ShAt tA tW tB c w s) (b : Bool) (x : Nat) : ShAt tA tW tB c (w.setCell (msA c b) (.int .u32 x)) (s.put b ⟨(s.mx b).w, x⟩) := by
  cases b
  · exact h.setA (off := 4) rfl ⟨rfl, rfl, rfl, rfl, rfl, rfl⟩ id id
  · exact h.setA (off := 2) rfl ⟨rfl, rfl, rfl, rfl, rfl, rfl⟩ id id
theorem ShAt.setDn (h : ShAt tA tW tB c w s) : ShAt tA tW tB c (w.setCell (dnA c) (.int .u32 1)) { s with done := true } := h.setA (off := 0) rfl ⟨rfl, rfl, rfl, rfl, rfl, rfl⟩ id id
theorem ShAt.setNm (h : ShAt tA tW tB c w s) (x : Nat) : ShAt tA tW tB c (w.setCell (nmA c) (.int .i64 x)) { s with num := x } := h.setA (off := 6) rfl ⟨rfl, rfl, rfl, rfl, rfl, rfl⟩ id id
theorem ShAt.setSe (h : ShAt tA tW tB c w s) (h1 : 1 ≤ s.st) : ShAt tA tW tB c (w.setCell (seA c) (.map (some s.mp))) { s with st := 2 } := h.setA (off := 5) rfl ⟨rfl, rfl, rfl, rfl, rfl, rfl⟩ (fun _ => h1) (fun e => by cases e)
theorem ShAt.setSt (h : ShAt tA tW tB c w s) (a b : Nat) : ShAt tA tW tB c (w.setCell (stA c.Wg) (.int .u64 ((a * 4294967296 + b : Nat) : Int))) { s with wv := a, ww := b } := h.setG (off := 0) rfl ⟨rfl, rfl, rfl, rfl, rfl⟩
theorem ShAt.setSm (h : ShAt tA tW tB c w s) (a : Nat) : ShAt tA tW tB c (w.setCell (smA c.Wg) (.int .u32 (a : Int))) { s with ws := a } := h.setG (off := 1) rfl ⟨rfl, rfl, rfl, rfl, rfl⟩
theorem ShAt.later (h : ShAt tA tW tB c w s) : ShAt tA tW tB c w.later s := h.of_heap rfl
theorem ShAt.asked (h : ShAt tA tW tB c w s) : ShAt tA tW tB c w.asked s := h.of_heap rfl
theorem ShAt.cMx (h : ShAt tA tW tB c w s) (b : Bool) : w.cell? (mxA c b) = some (.int .i32 (enc (s.mx b).w)) := by
  cases b <;> simp [World.cell?, mxA, h.a, Sh.mx]
theorem ShAt.cMs (h : ShAt tA tW tB c w s) (b : Bool) : w.cell? (msA c b) = some (.int .u32 (s.mx b).sem) := by
  cases b <;> simp [World.cell?, msA, h.a, Sh.mx]
theorem ShAt.cDn (h : ShAt tA tW tB c w s) : w.cell? (dnA c) = some (.int .u32 (if s.done then 1 else 0)) := by simp [World.cell?, dnA, h.a]
theorem ShAt.cSe (h : ShAt tA tW tB c w s) : w.cell? (seA c) = some (seV s) := by simp [World.cell?, seA, h.a]
theorem ShAt.cNm (h : ShAt tA tW tB c w s) : w.cell? (nmA c) = some (.int .i64 s.num) := by simp [World.cell?, nmA, h.a]
theorem ShAt.cSt (h : ShAt tA tW tB c w s) : w.cell? (stA c.Wg) = some (.int .u64 ((s.wv * 4294967296 + s.ww : Nat) : Int)) := by simp [World.cell?, stA, h.g]
theorem ShAt.cSm (h : ShAt tA tW tB c w s) : w.cell? (smA c.Wg) = some (.int .u32 (s.ws : Int)) := by simp [World.cell?, smA, h.g]
theorem ShAt.thA (h : ShAt tA tW tB c w s) (off : Nat) : w.frozen? ⟨c.A, off, none⟩ = false := by simp [World.frozen?, h.a]
theorem ShAt.thG (h : ShAt tA tW tB c w s) (off : Nat) : w.frozen? ⟨c.Wg, off, none⟩ = false := by simp [World.frozen?, h.g]
end

set_option linter.unusedVariables false
/-! ### a worker's stops -/
section
variable (c : TC) (q : AP)
/-- WHAT IS KNOWN: kept by what the others do; its own block holds cells; the shared blocks hold something. -/
structure KN (bx : Nat) (p : World → Prop) : Prop where
  st : Kept (RK 46 55 4 c (some bx)) p
  bx : ∀ w, p w → c.Low ≤ bx ∧ ∃ cs t fz, w.heap[bx]? = some (.cells cs t fz)
  live : ∀ w, p w → ∃ s, ShAt 46 55 4 c w s
/-- TO DEPTH k, FROM EVERY WORLD THAT MEETS p. -/
def WU (bx : Nat) (p : World → Prop) (k : Nat) (T : Wk) (g : Goroutine) : Prop :=
  T.bx = bx ∧ ∀ j, j < k → GU Try.prog false (RK 46 55 4 c (some bx)) (AtW Try.prog 46 55 4 c q (j + 1) T) p g
end

section
variable {c : TC} {q : AP} {bx : Nat} {p : World → Prop} {k : Nat} {T : Wk} {g : Goroutine} {w w' : World} {s s' : Sh}
theorem WU.mono {j : Nat} (h : WU c q bx p k T g) (e : j ≤ k) : WU c q bx p j T g := ⟨h.1, fun i hi => h.2 i (by omega)⟩
theorem KN.eff (K : KN c bx p) (hw : p w) (hs : ShAt 46 55 4 c w s) (e : Eff c s none w w') (hs' : ShAt 46 55 4 c w' s') (hm : s.st = 2 → s'.st = 2 ∧ s'.mp = s.mp) : p w' := by
  refine K.st w w' hw (RK.of_eff hs e hs' (fun b hb => ?_) (fun _ h => by cases h) hm)
  cases hb
  obtain ⟨h1, cs, t, fz, h2⟩ := K.bx w hw
  refine ⟨h1, ?_, fun h3 h4 => ?_, by simp⟩
  · exact (Array.getElem?_eq_some_iff.1 h2).1
  · obtain ⟨_, es, ck, h5, _⟩ := hs.m h3
    rw [← h4, h2] at h5; cases h5
theorem afterW {X : Wk} {bx' : Nat} {p' : World → Prop} {j : Nat} (hq : X.pc ≠ .quit) (hw : p' w') (h : WU c q bx' p' j X g) : AfterW Try.prog 46 55 4 c (AtW Try.prog 46 55 4 c q j) X g w' := by
  unfold AfterW
  rw [if_neg hq]
  cases j with
  | zero => exact ⟨0, fun _ _ => trivial⟩
  | succ j =>
    obtain ⟨m, hm⟩ := h.2 j (by omega)
    exact ⟨m, by rw [h.1]; exact hm w' hw⟩
/-- Not at a stop yet. -/
theorem WU.of (hb : T.bx = bx) (h : ∀ j, j < k → GU Try.prog false (RK 46 55 4 c (some bx)) (AtW Try.prog 46 55 4 c q (j + 1) T) p g) : WU c q bx p k T g := ⟨hb, h⟩

/-- ████ A STOP. ████ -/
theorem atStop (K : KN c bx p) {j : Nat} (hst : g.status = .running) (hof : g.offers = none) (h0 : T.c = 0) (hpc : T.pc ≠ .bx ∧ T.pc ≠ .al ∧ T.pc ≠ .ms1)
    (hwk : (T.pc = .us ∨ T.pc = .d4) → mayWake Try.prog g = true)
    (h : ∀ w s, p w → ShAt 46 55 4 c w s → FitW q T s → ∃ X c' s' g' w' es, Step q.W q.n q.nm T s X s' ∧ c' ≤ (if bare X.pc then 0 else 16) ∧ stepG Try.prog false g w = .go g' w' es ∧ ShAt 46 55 4 c w' s' ∧ Eff c s none w w' ∧ w'.heap.size = w.heap.size ∧ EvW c T s es ∧ X.pc ≠ .quit ∧ WU c q bx p j { X with c := c' } g') :
    ∀ w, p w → AtW Try.prog 46 55 4 c q (j + 1) T g w := by
  intro w hw
  refine ⟨hst, hof, fun _ => hwk, fun s hs hf => ⟨fun hwt => absurd hwt.2.1 hpc.2.2, fun _ => ?_⟩⟩
  obtain ⟨X, c', s', g', w', es, h1, h2, h3, h4, h5, h6, h7, h8, h9⟩ := h w s hw hs hf
  refine ⟨{ X with c := c' }, s', g', w', es, .inr ⟨h0, X, c', h1, rfl, h2⟩, h3, h4, h5, h7, ?_, afterW (by exact h8) (K.eff hw hs h5 h4 (st_keep h1 hf.locO)) h9⟩
  rw [if_neg (by rintro ⟨_, h | h⟩ <;> simp_all)]
  exact h6
theorem stopW (K : KN c bx p) {j : Nat} (hst : g.status = .running) (hof : g.offers = none) (h0 : T.c = 0) (hpc : T.pc ≠ .bx ∧ T.pc ≠ .al ∧ T.pc ≠ .ms1)
    (hwk : (T.pc = .us ∨ T.pc = .d4) → mayWake Try.prog g = true)
    (h : ∀ w s, p w → ShAt 46 55 4 c w s → FitW q T s → ∃ X c' s' g' w' es, Step q.W q.n q.nm T s X s' ∧ c' ≤ (if bare X.pc then 0 else 16) ∧ stepG Try.prog false g w = .go g' w' es ∧ ShAt 46 55 4 c w' s' ∧ Eff c s none w w' ∧ w'.heap.size = w.heap.size ∧ EvW c T s es ∧ X.pc ≠ .quit ∧ WU c q bx p j { X with c := c' } g') :
    GU Try.prog false (RK 46 55 4 c (some bx)) (AtW Try.prog 46 55 4 c q (j + 1) T) p g := GU.stop K.st (atStop K hst hof h0 hpc hwk h)
/-- It waits for a token, or takes one. -/
theorem stopW_sem (K : KN c bx p) {j : Nat} (hst : g.status = .running) (hof : g.offers = none) (h0 : T.c = 0) (hpc : T.pc = .ms1)
    (hwt : ∀ w s, p w → ShAt 46 55 4 c w s → (s.mx T.b).sem = 0 → stepG Try.prog false g w = .go { g with status := .blocked } w #[])
    (h : ∀ w s, p w → ShAt 46 55 4 c w s → FitW q T s → (s.mx T.b).sem ≠ 0 → ∃ X c' s' g' w' es, Step q.W q.n q.nm T s X s' ∧ c' ≤ (if bare X.pc then 0 else 16) ∧ stepG Try.prog false g w = .go g' w' es ∧ ShAt 46 55 4 c w' s' ∧ Eff c s none w w' ∧ w'.heap.size = w.heap.size ∧ EvW c T s es ∧ X.pc ≠ .quit ∧ WU c q bx p j { X with c := c' } g') :
    GU Try.prog false (RK 46 55 4 c (some bx)) (AtW Try.prog 46 55 4 c q (j + 1) T) p g := by
  refine GU.stop K.st fun w hw => ?_
  refine ⟨hst, hof, fun _ h => (by rw [hpc] at h; rcases h with h | h <;> cases h), fun s hs hf => ⟨fun x => hwt w s hw hs x.2.2, fun x => ?_⟩⟩
  obtain ⟨X, c', s', g', w', es, h1, h2, h3, h4, h5, h6, h7, h8, h9⟩ := h w s hw hs hf (fun e => x ⟨h0, hpc, e⟩)
  refine ⟨{ X with c := c' }, s', g', w', es, .inr ⟨h0, X, c', h1, rfl, h2⟩, h3, h4, h5, h7, ?_, afterW (by exact h8) (K.eff hw hs h5 h4 (st_keep h1 hf.locO)) h9⟩
  rw [if_neg (by rintro ⟨_, h | h⟩ <;> simp_all)]
  exact h6
/-- A QUIET STOP. -/
theorem stopQ (K : KN c bx p) (hb : T.bx = bx) {j : Nat} (hst : g.status = .running) (hof : g.offers = none) (h0 : 0 < T.c) (hnq : T.pc ≠ .quit) (c' : Nat) (hc : c' < T.c) {g' : Goroutine}
    (h : ∀ w, p w → ∃ w' es, stepG Try.prog false g w = .go g' w' es ∧ w'.heap = w.heap ∧ w'.tape = w.tape ∧ w'.output = w.output ∧ w'.os = w.os ∧ (∀ e ∈ es, ∃ a, e = ⟨.cell a, false, false⟩ ∧ (RoL c (.cell a) ∨ a.block = bx)))
    (n : WU c q bx p j { T with c := c' } g') :
    GU Try.prog false (RK 46 55 4 c (some bx)) (AtW Try.prog 46 55 4 c q (j + 1) T) p g := by
  refine GU.stop K.st fun w hw => ?_
  refine ⟨hst, hof, fun h => by omega, fun s hs hf => ⟨fun hwt => by have := hwt.1; omega, fun _ => ?_⟩⟩
  obtain ⟨w', es, h1, h2, h3, h4, h5, h6⟩ := h w hw
  have he : Eff c s none w w' := ⟨h3, h4, by rw [h5]; exact .refl _, by rw [h2]; exact Nat.le_refl _, fun _ _ _ _ _ _ _ => by rw [h2]⟩
  refine ⟨{ T with c := c' }, s, g', w', es, .inl ⟨h0, rfl, c', hc, rfl⟩, h1, hs.of_heap h2, he, ?_, ?_, afterW (by exact hnq) (K.eff hw hs he (hs.of_heap h2) (fun h => ⟨h, rfl⟩)) n⟩
  · unfold EvW
    rw [if_pos h0, hb]
    exact h6
  · rw [if_neg (by rintro ⟨h, _⟩; omega), h2]
end
end Go.Proofs.Ytnlopklbbajlbaa.Sw
