/- LightOnce: the words of a walk beside goroutines that only leave: goroutine 0 alone reads and writes. -/
import Derived.Test.YtnlopklbbajlbaaSwK1
import Derived.Conc.Beside
namespace Go.Proofs.Ytnlopklbbajlbaa.Sw
open Go Go.Conc Go.ConcN Go.RowKit
open Go.ConcR (DC0)
open Go.ConcR.Gen (base_kind baseD_kind)

section
variable {P : Program} {D : World → World → Array Event → Prop} {Stop : Goroutine → World → Prop} {n : Nat} {w : World}
theorem LG.ctl (hD : ∀ w, D w w #[]) {g g' : Goroutine} (hs : g.status = .running) (h : ∀ w, stepG P true g w = .go g' w) (k : Goes P true AtRel D Stop n g' w) : Goes P true AtRel D Stop (n + 1) g w :=
  Goes.step hs fun w₁ r => by rw [h w₁]; exact ⟨hD w₁, Goes.rely atRel_trans k r⟩
theorem LG.step {g : Goroutine} (hs : g.status = .running) (h : ∀ w₁, AtRel w w₁ → (stepG P true g w₁).goes fun g' w' es => D w₁ w' es ∧ Goes P true AtRel D Stop n g' w') : Goes P true AtRel D Stop (n + 1) g w := Goes.step hs h
variable {b : Frame} {a : Act} {kk : List Item} {cs : List Frame}
theorem LG.value (hD : ∀ w, D w w #[]) {ops : Array Oper} {i : Nat} {rest : List Nat} {o : Oper} (v : Value) (ho : ops[i]? = some o) (hw : Region.wanted o (yielded ops a.tmps) = true) (hk : b.kind ≠ .early)
    (hr : ∀ w, (execOp a.eval o).run P w = .ok (.value v) w) (he : ∀ w, (execOp a.eval o).events P w #[] = #[])
    (k : Goes P true AtRel D Stop n (G (b.at (a.put o.dst v) (.inRegion ops rest :: kk)) cs) w) : Goes P true AtRel D Stop (n + 1) (G (b.at a (.inRegion ops (i :: rest) :: kk)) cs) w :=
  LG.ctl hD rfl (fun w => by rw [stepG_value ho hw hk (hr w)]; unfold listed; rw [he w, seen_none]) k
theorem LG.unwanted (hD : ∀ w, D w w #[]) {ops : Array Oper} {i : Nat} {rest : List Nat} {o : Oper} (ho : ops[i]? = some o) (hw : Region.wanted o (yielded ops a.tmps) = false)
    (k : Goes P true AtRel D Stop n (G (b.at (a.put o.dst undef) (.inRegion ops rest :: kk)) cs) w) : Goes P true AtRel D Stop (n + 1) (G (b.at a (.inRegion ops (i :: rest) :: kk)) cs) w :=
  LG.ctl hD rfl (fun _ => stepG_unwanted ho hw) k
theorem LG.call (hD : ∀ w, D w w #[]) {ops : Array Oper} {i : Nat} {rest : List Nat} {o : Oper} {f : FuncId} {fn : Func} {c : Code} {args : Array Operand} {ats : Array TypeId}
    (ho : ops[i]? = some o) (hw : Region.wanted o (yielded ops a.tmps) = true) (hk : b.kind ≠ .early) (hop : o.op = .call { callee := .value (.func f), args, argTypes := ats })
    (hf : P.funcs[f]? = some fn) (hname : (fn.name == "runtime.NumGoroutine") = false) (hb : fn.body = some c)
    (k : Goes P true AtRel D Stop n (G ((Go.Conc.base f).at { tmps := args.map a.eval ++ Array.replicate (fn.ntmps - (args.map a.eval).size) undef, defers := [] } [.code c]) (b.at a (.inRegion ops (i :: rest) :: kk) :: cs)) w) :
    Goes P true AtRel D Stop (n + 1) (G (b.at a (.inRegion ops (i :: rest) :: kk)) cs) w :=
  Goes.step rfl fun w₁ r => goes_call ho hw hk hop hf hname hb ⟨hD w₁, Goes.rely atRel_trans k r⟩
variable {b₀ : Frame} {a₀ : Act} {todo : List Item} {fn : Func}
theorem LG.leave0 (hD : ∀ w, D w w #[]) {ops : Array Oper} {i : Nat} {rest : List Nat} (hn : b.kind = .normal) (hd : a.defers = []) (hf : P.funcs[b.fn]? = some fn) (hr : fn.results = #[])
    (k : Goes P true AtRel D Stop n (G (b₀.at (a₀.put ((ops[i]?).bind (·.dst)) (.tuple #[])) (.inRegion ops rest :: kk)) cs) w) :
    Goes P true AtRel D Stop (n + 1) (G { b.at a todo with mode := .returning } (b₀.at a₀ (.inRegion ops (i :: rest) :: kk) :: cs)) w :=
  Goes.step rfl fun w₁ r => goes_leave0 hn hd hf hr ⟨hD w₁, Goes.rely atRel_trans k r⟩
theorem LG.leave1 (hD : ∀ w, D w w #[]) {ops : Array Oper} {i : Nat} {rest : List Nat} {t : Tmp} (hn : b.kind = .normal) (hd : a.defers = []) (hf : P.funcs[b.fn]? = some fn) (hr : fn.results = #[.tmp t])
    (k : Goes P true AtRel D Stop n (G (b₀.at (a₀.put ((ops[i]?).bind (·.dst)) (a.tmps.getD t undef)) (.inRegion ops rest :: kk)) cs) w) :
    Goes P true AtRel D Stop (n + 1) (G { b.at a todo with mode := .returning } (b₀.at a₀ (.inRegion ops (i :: rest) :: kk) :: cs)) w :=
  Goes.step rfl fun w₁ r => goes_leave1 hn hd hf hr ⟨hD w₁, Goes.rely atRel_trans k r⟩
theorem LG.entry (hD : ∀ w, D w w #[]) {ops : Array Oper} {i : Nat} {rest : List Nat} {o : Oper} {f : FuncId} {args : Array Operand} {ats : Array TypeId} (v : Value) (ho : ops[i]? = some o) (hw : Region.wanted o (yielded ops a.tmps) = true) (hk : b.kind ≠ .early) (hop : o.op = .call { callee := .value (.func f), args, argTypes := ats })
    (hf : P.funcs[f]? = some fn) (hname : (fn.name == "runtime.NumGoroutine") = false) (hb : fn.body.isNone = true) (hn : Extern.findNext fn = none) (he : Extern.find fn = some (fun _ => pure v))
    (k : Goes P true AtRel D Stop n (G (b.at (a.put o.dst v) (.inRegion ops rest :: kk)) cs) w) : Goes P true AtRel D Stop (n + 1) (G (b.at a (.inRegion ops (i :: rest) :: kk)) cs) w :=
  LG.ctl hD rfl (fun _ => stepG_entry_pure v ho hw hk hop hf hname hb hn he) k
end

end Go.Proofs.Ytnlopklbbajlbaa.Sw
