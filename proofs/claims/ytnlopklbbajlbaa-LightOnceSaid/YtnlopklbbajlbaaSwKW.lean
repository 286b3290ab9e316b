/- LightOnce: plain memory: loads, stores, a box, a map. -/
import Derived.Test.YtnlopklbbajlbaaSwK4
import Derived.MapKept
import Derived.Test.YtnlopklbbajlbaaSwKT
set_option linter.unusedVariables false
set_option linter.unusedSimpArgs false
namespace Go.Proofs.Ytnlopklbbajlbaa.Sw
open Go Go.Conc Go.ConcN Go.RowKit
open Go.ConcR (DC0 stA smA)

section
variable {a : Act} {o : Oper} {w : World} {x y z : Operand} {ad : Addr}
theorem ld_run (t : TypeId) (ht : t = 3 ∨ t = 9 ∨ t = 23 ∨ t = 24 ∨ t = 26 ∨ t = 41 ∨ t = 50) {v : Value} (hop : o.op = .load t x) (hx : a.eval x = .pointer (some ad)) (hc : w.cell? ad = some v) :
    (execOp a.eval o).run Try.prog w = .ok (.value v) w ∧ (execOp a.eval o).events Try.prog w #[] = #[⟨.cell ad, false, false⟩] := by
  constructor
  · unfold execOp
    simp only [hop, hx]
    rcases ht with rfl | rfl | rfl | rfl | rfl | rfl | rfl <;> simp [go_sem, hc]
  · unfold execOp
    simp only [hop, hx]
    rcases ht with rfl | rfl | rfl | rfl | rfl | rfl | rfl <;> simp [go_sem, hc]
theorem st_bool {v : Bool} {u : Value} (hop : o.op = .store 4 x y) (hx : a.eval x = .pointer (some ad)) (hy : a.eval y = .bool v) (hc : w.cell? ad = some u) (hf : w.frozen? ad = false) :
    (execOp a.eval o).run Try.prog w = .ok .skip (w.setCell ad (.bool v)) ∧ (execOp a.eval o).events Try.prog w #[] = #[⟨.cell ad, true, false⟩] := by
  constructor
  · unfold execOp
    simp only [hop, hx, hy]
    simp [go_sem, hc, hf]
  · unfold execOp
    simp only [hop, hx, hy]
    have e : (store ad (.bool v) .plain).events Try.prog w #[] = storedEv Try.prog w #[] ad (.bool v) .plain := events_store Try.prog w #[] ad _ _ rfl
    simp [go_sem, e, storedEv, hc, hf]
theorem st_map {v : Option Nat} {u : Value} (hop : o.op = .store 41 x y) (hx : a.eval x = .pointer (some ad)) (hy : a.eval y = .map v) (hc : w.cell? ad = some u) (hf : w.frozen? ad = false) :
    (execOp a.eval o).run Try.prog w = .ok .skip (w.setCell ad (.map v)) ∧ (execOp a.eval o).events Try.prog w #[] = #[⟨.cell ad, true, false⟩] := by
  constructor
  · unfold execOp
    simp only [hop, hx, hy]
    simp [go_sem, hc, hf]
  · unfold execOp
    simp only [hop, hx, hy]
    have e : (store ad (.map v) .plain).events Try.prog w #[] = storedEv Try.prog w #[] ad (.map v) .plain := events_store Try.prog w #[] ad _ _ rfl
    simp [go_sem, e, storedEv, hc, hf]
theorem box_run {v : Option Addr} (hop : o.op = .box 24 x) (hx : a.eval x = .pointer v) :
    (execOp a.eval o).run Try.prog w = .ok (.value (.pointer (some ⟨w.heap.size, 0, none⟩))) (w.alloc (.cells #[.pointer v] 24)) ∧ (execOp a.eval o).events Try.prog w #[] = #[] := by
  constructor
  · unfold execOp
    simp only [hop, hx]
    simp [go_sem]
  · unfold execOp
    simp only [hop, hx]
    simp [go_sem]
theorem mm_run (hop : o.op = .makeMap 41 none) :
    (execOp a.eval o).run Try.prog w = .ok (.value (.map (some w.heap.size))) (w.alloc (.map #[] 0)) ∧ (execOp a.eval o).events Try.prog w #[] = #[] := by
  constructor
  · unfold execOp
    simp only [hop]
    simp [go_sem, Instr.makeMap]
  · unfold execOp
    simp only [hop]
    simp [go_sem, Instr.makeMap]
end

/-! ### the map -/
theorem u41 : Try.prog.underlying 41 = some (.map 9 3) := by kernel_rfl
theorem u9 : Try.prog.underlying 9 = some .string := by kernel_rfl
theorem z3 : (Try.prog.info? 3).map (·.zero) = some (some (.int .i64 0)) := by kernel_rfl
section
variable {w : World} {r ck : Nat} {es : Array MapEntry} {P : Program}
theorem ev_getObj (hb : w.heap[r]? = some (.map es ck)) (e0 : Array Event) : (getObj r).events P w e0 = e0.push ⟨.obj r, false, false⟩ := by
  simp [getObj, Sem.events, Sem.runT, hb, Obj.isChan, -Sem.runT_eq]
theorem ev_setObj (o : Obj) (ho : o.isChan = false) (hb : w.heap[r]? = some (.map es ck)) (e0 : Array Event) : (setObj r o).events P w e0 = e0.push ⟨.obj r, true, false⟩ := by
  simp [setObj, Sem.events, Sem.runT, hb, ho, -Sem.runT_eq]
theorem ev_checkKey {kt : TypeId} {d : TypeDesc} {k : Value} (hd : P.underlying kt = some d) (hk : MapKept.IsKey d k) (e : Bool) (n : Nat) (e0 : Array Event) : (Instr.checkKey e (n + 1) kt k).events P w e0 = e0 := by
  unfold Instr.checkKey
  simp only [Sem.events_bind, run_underlying hd, events_underlying, Result.andThen]
  cases d <;> cases k <;> simp_all [MapKept.IsKey]
theorem ev_findKey {kt : TypeId} {d : TypeDesc} {k : Value} {l : List MapEntry} {a : Option (Nat × Value)} (hd : P.underlying kt = some d) (h : Instr.findNow d k l 0 = some a) (e0 : Array Event) : (Instr.findKey kt k l).events P w e0 = e0 := by
  simp [Instr.findKey, Sem.events_bind, run_underlying hd, h]
end
section
variable {a : Act} {o : Oper} {w : World} {x y z : Operand} {r ck : Nat} {es : Array MapEntry} {con : List ByteArray} {nm : ByteArray}
theorem keys_ok (hk : es.toList.map (·.key) = con.map Value.string) : ∀ e ∈ es.toList, MapKept.IsKey .string e.key := by
  intro e he
  have : e.key ∈ es.toList.map (·.key) := List.mem_map.2 ⟨e, he, rfl⟩
  rw [hk] at this
  obtain ⟨b, _, h⟩ := List.mem_map.1 this
  rw [← h]
  trivial
theorem found (hk : es.toList.map (·.key) = con.map Value.string) :
    (Instr.findNow .string (.string nm) es.toList 0 = some none ∧ nm ∉ con) ∨ ∃ j v, Instr.findNow .string (.string nm) es.toList 0 = some (some (j, v)) ∧ nm ∈ con := by
  rcases MapKept.findNow_spec (d := .string) (k := .string nm) trivial es.toList 0 (keys_ok hk) with ⟨h1, h2⟩ | ⟨j, e, h1, h2, h3⟩
  · refine .inl ⟨h1, fun hm => ?_⟩
    have : Value.string nm ∈ es.toList.map (·.key) := by rw [hk]; exact List.mem_map.2 ⟨nm, hm, rfl⟩
    obtain ⟨e, he, hx⟩ := List.mem_map.1 this
    exact h2 e he hx
  · refine .inr ⟨_, _, h1, ?_⟩
    have : e.key ∈ es.toList.map (·.key) := List.mem_map.2 ⟨e, List.mem_of_getElem? h2, rfl⟩
    rw [hk, h3] at this
    obtain ⟨b, hb, h⟩ := List.mem_map.1 this
    cases h
    exact hb
/-- What a lookup yields. -/
noncomputable def lkV (es : Array MapEntry) (nm : ByteArray) : Value := match Instr.findNow .string (.string nm) es.toList 0 with
  | some (some (_, v)) => v
  | _ => .int .i64 0
noncomputable def lkB (es : Array MapEntry) (nm : ByteArray) : Bool := match Instr.findNow .string (.string nm) es.toList 0 with
  | some (some _) => true
  | _ => false
theorem lkB_iff (hk : es.toList.map (·.key) = con.map Value.string) : lkB es nm = true ↔ nm ∈ con := by
  unfold lkB
  rcases found (nm := nm) hk with ⟨h1, h2⟩ | ⟨j, v, h1, h2⟩ <;> rw [h1] <;> simp [h2]
theorem lk_run (hop : o.op = .lookup 41 x y true) (hx : a.eval x = .map (some r)) (hy : a.eval y = .string nm) (hb : w.heap[r]? = some (.map es ck)) (hk : es.toList.map (·.key) = con.map Value.string) :
    (execOp a.eval o).run Try.prog w = .ok (.value (.tuple #[lkV es nm, .bool (lkB es nm)])) w ∧ (execOp a.eval o).events Try.prog w #[] = #[⟨.obj r, false, false⟩] := by
  have ck0 := MapKept.run_checkKey (w := w) (k := .string nm) u9 (by trivial) es.isEmpty 9999
  have ce0 := fun e0 => ev_checkKey (w := w) (k := .string nm) u9 (by trivial) es.isEmpty 9999 e0
  unfold lkV lkB
  rcases found (nm := nm) hk with ⟨h1, h2⟩ | ⟨j, v, h1, h2⟩
  · refine ⟨?_, ?_⟩
    · unfold execOp
      simp only [hop, hx, hy]
      simp [go_sem, Instr.lookup, run_underlying u41, MapKept.run_getObj_map hb, ck0, MapKept.run_findKey u9 h1, Result.andThen, h1]
    · unfold execOp
      simp only [hop, hx, hy]
      simp [go_sem, Instr.lookup, run_underlying u41, MapKept.run_getObj_map hb, ck0, MapKept.run_findKey u9 h1, ev_getObj hb, ce0, ev_findKey u9 h1, Result.evThen]
  · refine ⟨?_, ?_⟩
    · unfold execOp
      simp only [hop, hx, hy]
      simp [go_sem, Instr.lookup, run_underlying u41, MapKept.run_getObj_map hb, ck0, MapKept.run_findKey u9 h1, Result.andThen, h1]
    · unfold execOp
      simp only [hop, hx, hy]
      simp [go_sem, Instr.lookup, run_underlying u41, MapKept.run_getObj_map hb, ck0, MapKept.run_findKey u9 h1, ev_getObj hb, ce0, ev_findKey u9 h1, Result.evThen]
theorem mu_run {v : Value} (hop : o.op = .mapUpdate 41 x y z) (hx : a.eval x = .map (some r)) (hy : a.eval y = .string nm) (hz : a.eval z = v) (hb : w.heap[r]? = some (.map es ck)) (hk : es.toList.map (·.key) = con.map Value.string) (hn : nm ∉ con) :
    (execOp a.eval o).run Try.prog w = .ok .skip { w with heap := w.heap.setIfInBounds r (.map (es.push { key := .string nm, val := v, born := ck }) (ck + 1)) } ∧ (∀ e ∈ (execOp a.eval o).events Try.prog w #[], ∃ b, e = ⟨.obj r, b, false⟩) := by
  have ck0 := MapKept.run_checkKey (w := w) (k := .string nm) u9 (by trivial) false 9999
  have ce0 := fun e0 => ev_checkKey (w := w) (k := .string nm) u9 (by trivial) false 9999 e0
  rcases found (nm := nm) hk with ⟨h1, h2⟩ | ⟨j, v, h1, h2⟩
  · constructor
    · unfold execOp
      simp only [hop, hx, hy, hz]
      simp [go_sem, Instr.mapUpdate, run_underlying u41, MapKept.run_getObj_map hb, ck0, MapKept.run_findKey u9 h1, MapKept.run_setObj_map _ hb, Result.andThen]
    · unfold execOp
      simp only [hop, hx, hy, hz]
      simp [go_sem, Instr.mapUpdate, run_underlying u41, MapKept.run_getObj_map hb, ck0, MapKept.run_findKey u9 h1, ev_getObj hb, ce0, ev_findKey u9 h1, Result.evThen, MapKept.run_setObj_map _ hb, ev_setObj (.map _ _) rfl hb]
  · exact absurd h2 hn
end
end Go.Proofs.Ytnlopklbbajlbaa.Sw

set_option linter.unusedVariables false
set_option linter.unusedSimpArgs false
set_option maxRecDepth 100000
namespace Go.Proofs.Ytnlopklbbajlbaa.Sw
open Go Go.Conc Go.ConcN Go.RowKit
open Go.ConcR (DC0 stA smA)

def regionOf (id : Nat) : Code → Option (Array Oper)
  | .region i ops _ => if i = id then some ops else none
  | .seq x y => match regionOf id x with | some c => some c | none => regionOf id y
  | .cond _ x y => match regionOf id x with | some c => some c | none => regionOf id y
  | .loop c => regionOf id c
  | .block _ c => regionOf id c
  | _ => none
noncomputable def body49 : Code := Try.f49.body.getD .skip
noncomputable def ops49 : Array Oper := (regionOf 0 body49).getD #[]
theorem dag49 : Dag ops49 := dag_of (by kernel_rfl)

theorem seen_loud {fn : FuncId} (hq : (Try.prog.funcs[fn]?).any (·.norace) = false) (ad : Addr) (x : Bool) : seen Try.prog fn #[⟨.cell ad, x, false⟩] = #[⟨.cell ad, x, false⟩] := by
  rw [seen_def, hq]; simp [seenStep]
theorem seen_obj {fn : FuncId} (hq : (Try.prog.funcs[fn]?).any (·.norace) = false) (r : Nat) (x : Bool) : seen Try.prog fn #[⟨.obj r, x, false⟩] = #[⟨.obj r, x, false⟩] := by
  rw [seen_def, hq]; simp [seenStep]

section
variable {c : TC} {q : AP} {bx : Nat} {p : World → Prop} {k : Nat} {T : Wk} {b : Frame} {a : Act} {kk : List Item} {cs : List Frame} {ops : Array Oper} {i : Nat} {rest : List Nat} {o : Oper}
theorem stepV0 {main : Bool} {w w' : World} {v : Value} (ho : ops[i]? = some o) (hw : Region.wanted o (yielded ops a.tmps) = true) (hk : b.kind ≠ .early)
    (h : (execOp a.eval o).run Try.prog w = .ok (.value v) w' ∧ (execOp a.eval o).events Try.prog w #[] = #[]) :
    stepG Try.prog main (G (b.at a (.inRegion ops (i :: rest) :: kk)) cs) w = .go (G (b.at (a.put o.dst v) (.inRegion ops rest :: kk)) cs) w' #[] := by
  rw [stepG_value ho hw hk h.1]
  unfold listed
  rw [h.2, seen_none]
theorem stepV1 {main : Bool} {w w' : World} {v : Value} {ad : Addr} {x : Bool} (ho : ops[i]? = some o) (hw : Region.wanted o (yielded ops a.tmps) = true) (hk : b.kind ≠ .early) (hq : (Try.prog.funcs[b.fn]?).any (·.norace) = false)
    (h : (execOp a.eval o).run Try.prog w = .ok (.value v) w' ∧ (execOp a.eval o).events Try.prog w #[] = #[⟨.cell ad, x, false⟩]) :
    stepG Try.prog main (G (b.at a (.inRegion ops (i :: rest) :: kk)) cs) w = .go (G (b.at (a.put o.dst v) (.inRegion ops rest :: kk)) cs) w' #[⟨.cell ad, x, false⟩] := by
  rw [stepG_value ho hw hk h.1]
  unfold listed
  rw [h.2, seen_loud hq]
theorem stepVo {main : Bool} {w w' : World} {v : Value} {r : Nat} {x : Bool} (ho : ops[i]? = some o) (hw : Region.wanted o (yielded ops a.tmps) = true) (hk : b.kind ≠ .early) (hq : (Try.prog.funcs[b.fn]?).any (·.norace) = false)
    (h : (execOp a.eval o).run Try.prog w = .ok (.value v) w' ∧ (execOp a.eval o).events Try.prog w #[] = #[⟨.obj r, x, false⟩]) :
    stepG Try.prog main (G (b.at a (.inRegion ops (i :: rest) :: kk)) cs) w = .go (G (b.at (a.put o.dst v) (.inRegion ops rest :: kk)) cs) w' #[⟨.obj r, x, false⟩] := by
  rw [stepG_value ho hw hk h.1]
  unfold listed
  rw [h.2, seen_obj hq]
theorem stepN1 {main : Bool} {w w' : World} {ad : Addr} {x : Bool} (ho : ops[i]? = some o) (hw : Region.wanted o (yielded ops a.tmps) = true) (hk : b.kind ≠ .early) (hq : (Try.prog.funcs[b.fn]?).any (·.norace) = false)
    (h : (execOp a.eval o).run Try.prog w = .ok .skip w' ∧ (execOp a.eval o).events Try.prog w #[] = #[⟨.cell ad, x, false⟩]) :
    stepG Try.prog main (G (b.at a (.inRegion ops (i :: rest) :: kk)) cs) w = .go (G (b.at (a.put o.dst undef) (.inRegion ops rest :: kk)) cs) w' #[⟨.cell ad, x, false⟩] := by
  rw [stepG_none ho hw hk h.1]
  unfold listed
  rw [h.2, seen_loud hq]
/-- A pure operation. -/
theorem WU.val (K : KN c bx p) (v : Value) (ho : ops[i]? = some o) (hw : Region.wanted o (yielded ops a.tmps) = true) (hk : b.kind ≠ .early)
    (hr : ∀ w, (execOp a.eval o).run Try.prog w = .ok (.value v) w) (he : ∀ w, (execOp a.eval o).events Try.prog w #[] = #[])
    (n : WU c q bx p k T (G (b.at (a.put o.dst v) (.inRegion ops rest :: kk)) cs)) : WU c q bx p k T (G (b.at a (.inRegion ops (i :: rest) :: kk)) cs) :=
  ⟨n.1, fun j hj => GU.value K.st v ho hw hk hr he (n.2 j hj)⟩
/-- A plain load as a quiet stop. -/
theorem stopLd (K : KN c bx p) (hb : T.bx = bx) {j m : Nat} (t : TypeId) (ht : t = 3 ∨ t = 9 ∨ t = 23 ∨ t = 24 ∨ t = 26 ∨ t = 41 ∨ t = 50) {x : Operand} {ad : Addr} {v : Value} (h0 : T.c = m + 1) (hnq : T.pc ≠ .quit) (ho : ops[i]? = some o) (hw : Region.wanted o (yielded ops a.tmps) = true) (hk : b.kind ≠ .early)
    (hop : o.op = .load t x) (hx : a.eval x = .pointer (some ad)) (hq : (Try.prog.funcs[b.fn]?).any (·.norace) = false) (hc : ∀ w, p w → w.cell? ad = some v) (hr : RoL c (.cell ad) ∨ ad.block = bx)
    (n : WU c q bx p j { T with c := m } (G (b.at (a.put o.dst v) (.inRegion ops rest :: kk)) cs)) :
    GU Try.prog false (RK 46 55 4 c (some bx)) (AtW Try.prog 46 55 4 c q (j + 1) T) p (G (b.at a (.inRegion ops (i :: rest) :: kk)) cs) := by
  refine stopQ K hb rfl rfl (by omega) hnq m (by omega) (fun w hw' => ?_) n
  obtain ⟨h1, h2⟩ := ld_run (w := w) t ht hop hx (hc w hw')
  refine ⟨w, _, stepG_value ho hw hk h1, rfl, rfl, rfl, rfl, ?_⟩
  unfold listed
  rw [h2, seen_loud hq]
  intro e he
  simp at he
  subst he
  exact ⟨_, rfl, hr⟩
/-- .. at the grain of WU. -/
theorem WU.ld (K : KN c bx p) (hb : T.bx = bx) {m : Nat} (t : TypeId) (ht : t = 3 ∨ t = 9 ∨ t = 23 ∨ t = 24 ∨ t = 26 ∨ t = 41 ∨ t = 50) {x : Operand} {ad : Addr} {v : Value} (h0 : T.c = m + 1) (hnq : T.pc ≠ .quit) (ho : ops[i]? = some o) (hw : Region.wanted o (yielded ops a.tmps) = true) (hk : b.kind ≠ .early)
    (hop : o.op = .load t x) (hx : a.eval x = .pointer (some ad)) (hq : (Try.prog.funcs[b.fn]?).any (·.norace) = false) (hc : ∀ w, p w → w.cell? ad = some v) (hr : RoL c (.cell ad) ∨ ad.block = bx)
    (n : WU c q bx p k { T with c := m } (G (b.at (a.put o.dst v) (.inRegion ops rest :: kk)) cs)) : WU c q bx p k T (G (b.at a (.inRegion ops (i :: rest) :: kk)) cs) :=
  ⟨hb, fun j hj => stopLd K hb t ht h0 hnq ho hw hk hop hx hq hc hr (n.mono (by omega))⟩
/-- A call of a function value. -/
theorem GU.callT {P : Program} {main : Bool} {R : World → World → Prop} {Stop : Goroutine → World → Prop} (hp : Kept R p) {f : FuncId} {fn : Func} {cd : Code} {t : Tmp} {cap : Array Value} {ats : Array TypeId}
    (ho : ops[i]? = some o) (hw : Region.wanted o (yielded ops a.tmps) = true) (hk : b.kind ≠ .early) (hop : o.op = .call { callee := .value (.tmp t), args := #[], argTypes := ats }) (hx : a.eval (.tmp t) = .func (.func f) #[] cap)
    (hf : P.funcs[f]? = some fn) (hname : (fn.name == "runtime.NumGoroutine") = false) (hb : fn.body = some cd)
    (n : GU P main R Stop p (G ((Go.Conc.base f).at { tmps := cap ++ Array.replicate (fn.ntmps - cap.size) undef, defers := [] } [.code cd]) (b.at a (.inRegion ops (i :: rest) :: kk) :: cs))) :
    GU P main R Stop p (G (b.at a (.inRegion ops (i :: rest) :: kk)) cs) := by
  have hn : ¬ fn.name = "runtime.NumGoroutine" := by simpa using hname
  refine .step hp rfl (fun w _ => ?_) n
  have hr : (execOp a.eval o).run P w = .ok (.enter f cap) w := by
    unfold execOp
    simp [hop, hx, resolve, Deferred.ofValue, invoke, callFunc, hf, hn, hb, Result.andThen]
  have he : (execOp a.eval o).events P w #[] = #[] := by
    unfold execOp
    simp [hop, hx, resolve, Deferred.ofValue, invoke, callFunc, hf, hn, hb, Result.andThen]
  rw [stepG_enter ho hw hk hr, enter_at _ hf hb]
  unfold listed
  rw [he, seen_none]
  exact ⟨rfl, rfl, rfl⟩
end

section
variable {c : TC} {q : AP} {bx : Nat} {p : World → Prop} {i m : Nat} {r : Bool} {cs : List Frame} {cF : Frame}
set_option maxHeartbeats 4000000 in
/-- The order of its six operations is drawn. -/
theorem r49 (K : KN c bx p) (hcF : cF.mode = .returning) (k : Nat) (old : MuW) (aw sv : Bool) (it : Nat)
    (next : WU c q bx p k ⟨.ur, 0, true, i, old, aw, sv, it, r, bx, m⟩ (G cF cs)) :
    ∀ (l : List Nat) (b0 b1 b2 b3 b4 : Bool), Ord ops49 #[b0, b1, b2, b3, b4, false] l → ∀ (j4 j5 j6 j7 j8 : Value),
      (b1 = true → b0 = true) → (b2 = true → b1 = true) → (b4 = true → b3 = true) → (b0 = true → j4 = .pointer (some ⟨c.A, 0, none⟩)) → (b1 = true → j5 = .pointer (some ⟨c.A, 0, none⟩)) → (b2 = true → j6 = .pointer (some ⟨c.A, 0, none⟩)) → (b3 = true → j7 = .bool true) → (b4 = true → j8 = .int .u32 1) →
      WU c q bx p k ⟨.dst, 0, true, i, old, aw, sv, it, r, bx, m⟩ (G ((baseD 49).at ⟨#[.pointer (some ⟨c.A, 0, none⟩), .bool true, undef, undef, j4, j5, j6, j7, j8, undef], []⟩ [.inRegion ops49 l]) (cF :: cs)) := by
  have hp := K.st
  intro l
  induction l with
  | nil =>
    intro b0 b1 b2 b3 b4 ho
    have := ho 5 (by decide +kernel)
    simp at this
  | cons x l ih =>
    intro b0 b1 b2 b3 b4 ho j4 j5 j6 j7 j8 i1 i2 i4 h4 h5 h6 h7 h8
    have hlt : x < 6 := ho.lt
    obtain ⟨hok, ho⟩ := ho
    obtain rfl | rfl | rfl | rfl | rfl | rfl : x = 0 ∨ x = 1 ∨ x = 2 ∨ x = 3 ∨ x = 4 ∨ x = 5 := by omega
    · have ih2 := ih true b1 b2 b3 b4 ho (.pointer (some ⟨c.A, 0, none⟩)) j5 j6 j7 j8 (fun _ => rfl) i2 i4 (fun _ => rfl) h5 h6 h7 h8
      simp (config := { decide := true }) only [ops49, regionOf, body49, Try.f49, Option.getD_some, if_true] at ih2 ⊢
      refine WU.val K _ rfl rfl (by k_ne) (fun _ => by go_simp <;> rfl) (fun _ => by simp [go_sem]) ?_
      exact ih2
    · simp [okAt, ops49, regionOf, body49, Try.f49, Region.binds] at hok
      obtain ⟨rfl, rfl⟩ := hok
      obtain rfl := h4 rfl
      have ih2 := ih true true b2 b3 b4 ho (.pointer (some ⟨c.A, 0, none⟩)) (.pointer (some ⟨c.A, 0, none⟩)) j6 j7 j8 (fun _ => rfl) (fun _ => rfl) i4 (fun _ => rfl) (fun _ => rfl) h6 h7 h8
      simp (config := { decide := true }) only [ops49, regionOf, body49, Try.f49, Option.getD_some, if_true] at ih2 ⊢
      refine WU.val K _ rfl rfl (by k_ne) (fun _ => by go_simp <;> rfl) (fun _ => by simp [go_sem]) ?_
      exact ih2
    · simp [okAt, ops49, regionOf, body49, Try.f49, Region.binds] at hok
      obtain ⟨rfl, rfl⟩ := hok
      obtain rfl := h5 rfl
      have ih2 := ih b0 true true b3 b4 ho j4 (.pointer (some ⟨c.A, 0, none⟩)) (.pointer (some ⟨c.A, 0, none⟩)) j7 j8 i1 (fun _ => rfl) i4 h4 (fun _ => rfl) (fun _ => rfl) h7 h8
      simp (config := { decide := true }) only [ops49, regionOf, body49, Try.f49, Option.getD_some, if_true] at ih2 ⊢
      refine WU.val K _ rfl rfl (by k_ne) (fun _ => by go_simp <;> rfl) (fun _ => by simp [go_sem]) ?_
      exact ih2
    · have ih2 := ih b0 b1 b2 true b4 ho j4 j5 j6 (.bool true) j8 i1 i2 (fun _ => rfl) h4 h5 h6 (fun _ => rfl) h8
      simp (config := { decide := true }) only [ops49, regionOf, body49, Try.f49, Option.getD_some, if_true] at ih2 ⊢
      refine WU.val K _ rfl rfl (by k_ne) (fun _ => by go_simp <;> rfl) (fun _ => by simp [go_sem]) ?_
      exact ih2
    · simp [okAt, ops49, regionOf, body49, Try.f49, Region.binds] at hok
      obtain ⟨rfl, rfl⟩ := hok
      obtain rfl := h7 rfl
      refine ⟨rfl, fun j hj => ?_⟩
      have ih2 := ih b0 b1 b2 true true ho j4 j5 j6 (.bool true) (.int .u32 1) i1 i2 (fun _ => rfl) h4 h5 h6 (fun _ => rfl) (fun _ => rfl)
      simp (config := { decide := true }) only [ops49, regionOf, body49, Try.f49, Option.getD_some, if_true] at ih2 ⊢
      (refine GU.call hp rfl rfl (by k_ne) rfl Try.func55 nm55 rfl ?_; walk_nrmf Try.f55)
      (refine GU.ctl hp rfl (fun _ => stepG_seq) ?_; refine GU.ctl hp rfl (fun _ => stepG_region) ?_; simp only [List.size_toArray, List.length_cons, List.length_nil, Nat.reduceAdd, Nat.zero_add, List.range, List.range.loop]; refine GU.value hp _ rfl rfl (by k_ne) (fun _ => by go_simp <;> rfl) (fun _ => by simp [go_sem, *]) ?_; walk_nrm; refine GU.ctl hp rfl (fun _ => stepG_region_end) ?_; (iterate 2 (refine GU.ctl hp rfl (fun _ => stepG_seq) ?_)); refine GU.ctl hp rfl (fun _ => stepG_region) ?_; simp only [List.size_toArray, List.length_cons, List.length_nil, Nat.reduceAdd, Nat.zero_add, List.range, List.range.loop]; refine GU.value hp _ rfl rfl (by k_ne) (fun _ => by go_simp <;> rfl) (fun _ => by simp [go_sem, *]) ?_; walk_nrm; refine GU.ctl hp rfl (fun _ => stepG_region_end) ?_; refine GU.ctl hp rfl (fun _ => stepG_cond (t := true) rfl) ?_; simp only [if_true, if_false, Bool.false_eq_true, ↓reduceIte]; refine GU.ctl hp rfl (fun _ => stepG_seq) ?_; refine GU.ctl hp rfl (fun _ => stepG_region) ?_; simp only [List.size_toArray, List.length_cons, List.length_nil, Nat.reduceAdd, Nat.zero_add, List.range, List.range.loop]; refine GU.value hp _ rfl rfl (by k_ne) (fun _ => by go_simp <;> rfl) (fun _ => by simp [go_sem, *]) ?_; walk_nrm; refine GU.ctl hp rfl (fun _ => stepG_region_end) ?_; refine GU.ctl hp rfl (fun _ => stepG_ret') ?_)
      (refine GU.leave1 hp rfl rfl Try.func55 rfl ?_; walk_nrm)
      exact ih2.2 j hj
    · simp [okAt, ops49, regionOf, body49, Try.f49, Region.binds] at hok
      obtain ⟨rfl, rfl⟩ := hok
      obtain rfl := h6 rfl
      obtain rfl := h8 rfl
      refine ⟨rfl, fun j hj => ?_⟩
      obtain rfl := i2 rfl
      obtain rfl := i1 rfl
      obtain rfl := i4 rfl
      have hl : l = [] := ho.nil (by decide +kernel)
      subst hl
      simp (config := { decide := true }) only [ops49, regionOf, body49, Try.f49, Option.getD_some, if_true]
      -- STOP dst
      refine stopW K rfl rfl rfl (by simp) (by simp) (fun w s hw hs hf => ⟨⟨.ur, 0, true, i, old, aw, sv, it, r, bx, m⟩, 0, { s with done := true }, _, _, _, by simp [Step], Nat.zero_le _, stepG_store_atomic rfl rfl (by k_ne) rfl Try.func54 x54_n x54_b x54_x x54_f (ad := dnA c) rfl rfl hs.cDn (hs.thA _), hs.setDn, Eff.set _ _ _ _ _ (.inl rfl), (aside_setCell _ _ _).size, by simp [EvW, wrE], by simp, ?_⟩)
      clear hw hs hf
      refine ⟨rfl, fun j2 hj2 => ?_⟩
      walk_nrm
      (refine GU.ctl hp rfl (fun _ => stepG_region_end) ?_; refine GU.ctl hp rfl (fun _ => stepG_end) ?_)
      refine GU.leaveD hp rfl rfl Try.func49 rfl hcF ?_
      exact next.2 j2 (by omega)
end
end Go.Proofs.Ytnlopklbbajlbaa.Sw
