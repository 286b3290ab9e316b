/- LightOnce: See's loop that starts the workers, and its Wait (printed by tools/gennd.py). -/
import Derived.Test.YtnlopklbbajlbaaSwNC
set_option linter.unusedVariables false
set_option linter.unusedSimpArgs false
set_option maxRecDepth 100000
namespace Go.Proofs.Ytnlopklbbajlbaa.Sw
open Go Go.Conc Go.ConcN Go.RowKit
open Go.ConcR (DC0 stA smA)
def blockOf (id : Nat) : Code → Option Code
  | .block i x => if i = id then some x else blockOf id x
  | .seq x y => match blockOf id x with | some c => some c | none => blockOf id y
  | .cond _ x y => match blockOf id x with | some c => some c | none => blockOf id y
  | .loop x => blockOf id x
  | _ => none
noncomputable def body5 : Code := Try.f5.body.getD .skip
noncomputable def LL5 : Code := ((blockOf 2 body5).bind findLoop).getD .skip
noncomputable def LL5u : Code := ((blockOf 2 body5).bind findLoop).getD .skip
noncomputable def REST20 : Code := (tailFrom 20 body5).getD .skip
noncomputable def REST21 : Code := (tailFrom 21 body5).getD .skip
noncomputable def ops20 : Array Oper := (regionOf 20 body5).getD #[]
theorem loud5 : (Try.prog.funcs[(Go.Conc.base 5).fn]?).any (·.norace) = false := by kernel_rfl

section
variable {a : Act} {o : Oper} {w : World} {x y : Operand} {ad : Addr}
theorem al3_run (hop : o.op = .alloc 3) :
    (execOp a.eval o).run Try.prog w = .ok (.value (.pointer (some ⟨w.heap.size, 0, none⟩))) (w.alloc (.cells #[.int .i64 0] 3)) ∧ (execOp a.eval o).events Try.prog w #[] = #[] := by
  constructor
  · unfold execOp
    simp only [hop]
    simp [go_sem]
  · unfold execOp
    simp only [hop]
    simp [go_sem]
theorem st_int {v : Int} {u : Value} (hop : o.op = .store 3 x y) (hx : a.eval x = .pointer (some ad)) (hy : a.eval y = .int .i64 v) (hc : w.cell? ad = some u) (hf : w.frozen? ad = false) :
    (execOp a.eval o).run Try.prog w = .ok .skip (w.setCell ad (.int .i64 v)) ∧ (execOp a.eval o).events Try.prog w #[] = #[⟨.cell ad, true, false⟩] := by
  constructor
  · unfold execOp
    simp only [hop, hx, hy]
    simp [go_sem, hc, hf]
  · unfold execOp
    simp only [hop, hx, hy]
    have e : (store ad (.int .i64 v) .plain).events Try.prog w #[] = storedEv Try.prog w #[] ad (.int .i64 v) .plain := events_store Try.prog w #[] ad _ _ rfl
    simp [go_sem, e, storedEv, hc, hf]
theorem go_run {t : Tmp} {f : FuncId} {cap : Array Value} {ats : Array TypeId} (hop : o.op = .go { callee := .value (.tmp t), args := #[], argTypes := ats }) (hx : a.eval (.tmp t) = .func (.func f) #[] cap) :
    (execOp a.eval o).run Try.prog w = .ok (.spawn { target := .fn (.func f) cap, args := #[] }) w ∧ (execOp a.eval o).events Try.prog w #[] = #[] := by
  constructor
  · unfold execOp
    simp [hop, hx, resolve, Deferred.ofValue, Result.andThen]
  · unfold execOp
    simp [hop, hx, resolve, Deferred.ofValue, Result.andThen]
theorem stepSpawn {main : Bool} {b : Frame} {kk : List Item} {cs : List Frame} {ops : Array Oper} {i : Nat} {rest : List Nat} {f : FuncId} {cap : Array Value} (ho : ops[i]? = some o) (hw : Region.wanted o (yielded ops a.tmps) = true) (hk : b.kind ≠ .early)
    (h : (execOp a.eval o).run Try.prog w = .ok (.spawn { target := .fn (.func f) cap, args := #[] }) w ∧ (execOp a.eval o).events Try.prog w #[] = #[]) :
    stepG Try.prog main (G (b.at a (.inRegion ops (i :: rest) :: kk)) cs) w = .spawn (G (b.at (a.put o.dst undef) (.inRegion ops rest :: kk)) cs) (born Try.prog { target := .fn (.func f) cap, args := #[] }) w #[] := by
  rw [stepG_spawn ho hw hk h.1 rfl]
  unfold listed
  rw [h.2, seen_none]
end
section
variable {c : TC} {w w' : World} {s s' : Sh}
/-- A block of one's own: what is shared stands. -/
theorem ShAt.own (h : ShAt 46 55 4 c w s) {z : Nat} (hz : c.Low ≤ z) {cs0 : Array Value} {t : TypeId} {fz : Nat × Nat} (hb : w.heap[z]? = some (.cells cs0 t fz)) (off : Nat) (v : Value) : ShAt 46 55 4 c (w.setCell ⟨z, off, none⟩ v) s := by
  have A := aside_setCell w ⟨z, off, none⟩ v
  have k : ∀ b, b ≠ z → (w.setCell ⟨z, off, none⟩ v).heap[b]? = w.heap[b]? := fun b hb => A.block b hb
  have l1 := c.la
  have l2 := c.lw
  have l3 := c.lf
  refine ⟨by rw [k _ (by omega)]; exact h.a, by rw [k _ (by omega)]; exact h.g, by rw [k _ (by omega)]; exact h.f, fun x => ?_, by rw [A.size]; exact h.low, h.mo, h.z⟩
  obtain ⟨h1, es, ck, h2, h3⟩ := h.m x
  have hne : s.mp ≠ z := fun e => by rw [e, hb] at h2; cases h2
  exact ⟨by rw [A.size]; exact h1, es, ck, by rw [k _ hne]; exact h2, h3⟩
theorem Eff.own (s : Sh) (w : World) (z off : Nat) (v : Value) : Eff c s (some z) w (w.setCell ⟨z, off, none⟩ v) :=
  have A := aside_setCell w ⟨z, off, none⟩ v
  ⟨A.tape, A.output, by rw [A.os]; exact .refl _, Nat.le_of_eq A.size.symm, fun b _ _ _ _ _ h => A.block b (fun e => h (congrArg some (show z = b from e.symm)))⟩
variable {q : AP} {V : Vw} {v v' : Value} {t : TypeId} {z : Nat}
theorem wn_eff (H : Vok c q V) (hw : Wn c q V w) (hs : ShAt 46 55 4 c w s) {o : Option Nat} (e : Eff c s o w w') (hs' : ShAt 46 55 4 c w' s') (ho : ∀ b, o = some b → c.Low ≤ b) (hm : s.st = 2 → s'.st = 2 ∧ s'.mp = s.mp) : Wn c q V w' :=
  hw.rely H (RK.of_eff (o := none) hs e hs' (fun b hb => by cases hb) ho hm)
theorem pw_eff (H : Vok c q V) (hw : PW c q V v t z w) (hs : ShAt 46 55 4 c w s) (e : Eff c s none w w') (hs' : ShAt 46 55 4 c w' s') (hm : s.st = 2 → s'.st = 2 ∧ s'.mp = s.mp) : PW c q V v t z w' :=
  (pw_kn H v t z).eff hw hs e hs' hm
theorem pw_ks (H : Vok c q V) : KS c (some z) (PW c q V v t z) := ⟨(pw_kn H v t z).st, (pw_kn H v t z).live⟩
theorem wn_ks (H : Vok c q V) : KS c none (Wn c q V) := ⟨fun w w₁ h r => h.rely H r, fun w h => h.live⟩
theorem pw_set (H : Vok c q V) (hw : PW c q V v t z w) (hs : ShAt 46 55 4 c w s) (v' : Value) : PW c q V v' t z (w.setCell ⟨z, 0, none⟩ v') := by
  refine ⟨wn_eff H hw.1 hs (Eff.own s w z 0 v') (hs.own hw.2.1 hw.2.2 0 v') (fun b h => by cases h; exact hw.2.1) (fun h => ⟨h, rfl⟩), hw.2.1, ?_⟩
  have := heap_set (a := ⟨z, 0, none⟩) (v := v') hw.2.2 rfl
  simpa using this
end

section
variable {c : TC} {q : AP} {V : Vw} {Anch : Sh → Goroutine → World → Prop} {cs : List Frame}
theorem bxS_sk (x : Prop) [Decidable x] (j vs z : Nat) : bxS ⟨if x then .sb else .kd, j, vs, z⟩ = none := by
  by_cases h : x <;> simp [bxS, h]
set_option maxHeartbeats 16000000 in
/-- ████ THE STARTER's WHOLE SCRIPT. ████ -/
theorem seeLoop (H : Vok c q V) (hB : q.B < 60) (hN : q.S0.length + q.n + q.W < 1152921504606846976) (t1 t2 t6 t8 t9 t10 t11 t12 t16 t17 t18 t19 t20 t21 t22 t23 t24 t25 t26 t27 t28 t29 t30 t31 t32 t33 t34 t35 t36 t37 t38 t39 t40 t41 t42 t43 t44 t45 t46 t47 t48 t57 t58 t59 t60 t61 t62 t63 t64 t65 t66 t67 t68 t69 t70 t71 t72 t73 t74 t75 t76 : Value)
    (hA : ∀ w s g', Wn c q V w → ShAt 46 55 4 c w s → (∃ j15 j50 j51 j52 j53 j54 j55 : Value, Back (G ((Go.Conc.base 5).at ⟨#[.pointer (some ⟨c.A, 0, none⟩), t1, t2, .pointer (some ⟨V.bA, 0, none⟩), .pointer (some ⟨V.bN, 0, none⟩), .pointer (some ⟨V.bK, 0, none⟩), t6, .pointer (some ⟨V.bAt, 0, none⟩), t8, t9, t10, t11, t12, .pointer (some ⟨V.bF, 0, none⟩), .pointer (some ⟨c.Wg, 0, none⟩), j15, t16, t17, t18, t19, t20, t21, t22, t23, t24, t25, t26, t27, t28, t29, t30, t31, t32, t33, t34, t35, t36, t37, t38, t39, t40, t41, t42, t43, t44, t45, t46, t47, t48, .int .i64 (c.W : Int), j50, j51, j52, j53, j54, j55, .tuple #[], t57, t58, t59, t60, t61, t62, t63, t64, t65, t66, t67, t68, t69, t70, t71, t72, t73, t74, t75, t76], []⟩ [.inRegion ops20 [], .code REST21]) cs) g') → Anch s g' w) :
    ∀ (k jj : Nat), jj ≤ c.W → ∀ (vs bx : Nat) (j15 j51 j52 j53 j54 j55 j56 : Value),
    SU c q Anch none (Wn c q V) k ⟨if jj < c.W then .sb else .kd, jj, vs, bx⟩ (G ((Go.Conc.base 5).at ⟨#[.pointer (some ⟨c.A, 0, none⟩), t1, t2, .pointer (some ⟨V.bA, 0, none⟩), .pointer (some ⟨V.bN, 0, none⟩), .pointer (some ⟨V.bK, 0, none⟩), t6, .pointer (some ⟨V.bAt, 0, none⟩), t8, t9, t10, t11, t12, .pointer (some ⟨V.bF, 0, none⟩), .pointer (some ⟨c.Wg, 0, none⟩), j15, t16, t17, t18, t19, t20, t21, t22, t23, t24, t25, t26, t27, t28, t29, t30, t31, t32, t33, t34, t35, t36, t37, t38, t39, t40, t41, t42, t43, t44, t45, t46, t47, t48, .int .i64 (c.W : Int), .int .i64 (jj : Int), j51, j52, j53, j54, j55, j56, t57, t58, t59, t60, t61, t62, t63, t64, t65, t66, t67, t68, t69, t70, t71, t72, t73, t74, t75, t76], []⟩ [.code LL5, .inLoop LL5, .inBlock 2, .code REST20]) cs) := by
  have hW16 := H.W16
  have hqW := H.qW
  intro k
  induction k using Nat.strongRecOn with
  | _ k ih =>
  intro jj hjj vs bx j15 j51 j52 j53 j54 j55 j56
  have K := wn_ks H
  have hp := K.st
  by_cases hj : jj < c.W
  · have e1 : (if jj < c.W then Sc.sb else Sc.kd) = .sb := if_pos hj
    rw [e1]
    refine ⟨rfl, fun j hj' => ?_⟩
    rw [show LL5 = LL5u from rfl]
    simp (config := { decide := true }) only [LL5u, REST20, tailFrom, firstId, findLoop, blockOf, body5, Try.f5, Option.getD_some, Option.bind_some, reduceIte, Option.some.injEq, Nat.reduceEqDiff, reduceCtorEq]
    (refine GU.ctl hp rfl (fun _ => stepG_seq) ?_; refine GU.ctl hp rfl (fun _ => stepG_region) ?_; simp only [List.size_toArray, List.length_cons, List.length_nil, Nat.reduceAdd, Nat.zero_add, List.range, List.range.loop]; refine GU.value hp _ rfl rfl (by k_ne) (fun _ => by go_simp <;> rfl) (fun _ => by simp [go_sem, *]) ?_; walk_nrm; refine GU.ctl hp rfl (fun _ => stepG_region_end) ?_; refine GU.ctl hp rfl (fun _ => stepG_seq) ?_; refine GU.ctl hp rfl (fun _ => stepG_cond (t := true) rfl) ?_; simp only [if_true, if_false, Bool.false_eq_true, ↓reduceIte]; refine GU.ctl hp rfl (fun _ => stepG_skip) ?_; refine GU.ctl hp rfl (fun _ => stepG_seq) ?_; refine GU.ctl hp rfl (fun _ => stepG_block) ?_; refine GU.ctl hp rfl (fun _ => stepG_seq) ?_; refine GU.ctl hp rfl (fun _ => stepG_region) ?_; simp only [List.size_toArray, List.length_cons, List.length_nil, Nat.reduceAdd, Nat.zero_add, List.range, List.range.loop]; refine GU.value hp _ rfl rfl (by k_ne) (fun _ => by go_simp <;> rfl) (fun _ => by simp [go_sem, *]) ?_; walk_nrm)
    -- STOP sb
    refine stopS_sb K rfl rfl rfl rfl (fun w s hw hs => ⟨_, _, PW c q V (.int .i64 0) 3 w.heap.size, stepV0 rfl rfl (by k_ne) (al3_run rfl), hs.alloc _, Eff.alloc _ _ _ _, alloc_size _ _, ⟨hw.grow hs H _, hs.low, by show (w.heap.push _)[w.heap.size]? = _; simp⟩, ?_⟩)
    generalize w.heap.size = z
    clear hw hs
    clear hp
    have hp := (pw_kn H (.int .i64 0) 3 z).st
    refine ⟨rfl, fun j2 hj2 => ?_⟩
    walk_nrm
    -- STOP so
    refine stopS (pw_ks H) rfl rfl rfl (by simp) (fun w s hw hs hf => ⟨⟨.sd, jj, vs, z⟩, s, _, _, _, some z, PW c q V (.int .i64 (jj : Int)) 3 z, by simp [StepS], stepN1 rfl rfl (by k_ne) loud5 (st_int (ad := ⟨z, 0, none⟩) (v := (jj : Int)) rfl rfl rfl (pw_cell hw) (by simp [World.frozen?, hw.2.2])), hs.own hw.2.1 hw.2.2 0 _, Eff.own _ _ _ _ _, by simp [EvS], (aside_setCell _ _ _).size, by simp, pw_set H hw hs _, ?_⟩)
    clear hw hs hf hp
    have hp := (pw_kn H (.int .i64 (jj : Int)) 3 z).st
    refine ⟨rfl, fun j3 hj3 => ?_⟩
    walk_nrm
    (refine GU.ctl hp rfl (fun _ => stepG_region_end) ?_; refine GU.ctl hp rfl (fun _ => stepG_seq) ?_; refine GU.ctl hp rfl (fun _ => stepG_region) ?_; simp only [List.size_toArray, List.length_cons, List.length_nil, Nat.reduceAdd, Nat.zero_add, List.range, List.range.loop])
    (refine GU.call hp rfl rfl (by k_ne) rfl Try.func8 nm8 rfl ?_; walk_nrmf Try.f8)
    refine (addL (pw_ks H) (by omega) (fun w w' s s' h1 h2 h3 h4 h5 => pw_eff H h1 h2 h4 h3 h5) ⟨rfl, fun j4 hj4 => ?_⟩ : SU c q Anch (some z) _ (j3 + 1) _ _).2 j3 (Nat.lt_succ_self _)
    walk_nrm
    (refine GU.ctl hp rfl (fun _ => stepG_region_end) ?_; refine GU.ctl hp rfl (fun _ => stepG_region) ?_; simp only [List.size_toArray, List.length_cons, List.length_nil, Nat.reduceAdd, Nat.zero_add, List.range, List.range.loop]; refine GU.value hp _ rfl rfl (by k_ne) (fun _ => by go_simp <;> rfl) (fun _ => by simp [go_sem, *]) ?_; walk_nrm)
    -- STOP sg
    refine stopS_sg (pw_ks H) rfl rfl rfl rfl (fun w s hw hs => ⟨T0 c z jj, _, born Try.prog (call9 c V z), Wn c q V, ?_, ?_, rfl, stepSpawn rfl rfl (by k_ne) (go_run rfl rfl), fun k => ?_, hw.1, ?_⟩)
    · refine ⟨rfl, ?_⟩
      by_cases h2 : jj < c.n
      · exact .inl ⟨by rw [H.qn]; exact h2, by simp [T0, h2]⟩
      · exact .inr ⟨by show q.n ≤ jj; rw [H.qn]; omega, by simp [T0, h2]⟩
    · simp only [T0]; split <;> omega
    · obtain ⟨m, hm⟩ := (childL H hB hN hj (k + 1)).2 k (Nat.lt_succ_self _)
      exact ⟨m, hm w hw⟩
    clear hw hs hp
    have hp := K.st
    have e2 : (⟨if jj + 1 < q.W then .sb else .kd, jj + 1, vs, z⟩ : St) = ⟨if jj + 1 < c.W then .sb else .kd, jj + 1, vs, z⟩ := by rw [hqW]
    refine ⟨bxS_sk _ _ _ _, fun j5 hj5 => ?_⟩
    show GU _ _ _ (AtS _ _ _ _ _ _ _ _ ⟨if jj + 1 < q.W then .sb else .kd, jj + 1, vs, z⟩) _ _
    rw [e2]
    walk_nrm
    (refine GU.ctl hp rfl (fun _ => stepG_region_end) ?_; refine GU.ctl hp rfl (fun _ => stepG_inBlock) ?_; refine GU.ctl hp rfl (fun _ => stepG_region) ?_; simp only [List.size_toArray, List.length_cons, List.length_nil, Nat.reduceAdd, Nat.zero_add, List.range, List.range.loop]; (iterate 2 (refine GU.value hp _ rfl rfl (by k_ne) (fun _ => by go_simp <;> rfl) (fun _ => by simp [go_sem, *]) ?_; walk_nrm)); refine GU.ctl hp rfl (fun _ => stepG_region_end) ?_)
    refine GU.ctl hp rfl (fun _ => stepG_inLoop) ?_
    rw [show IntKind.i64.wrap ((jj : Int) + 1) = ((jj + 1 : Nat) : Int) from by rw [IntKind.wrap_i64]; omega]
    exact (ih j4 (by omega) (jj + 1) (by omega) vs z _ _ _ _ _ _ _).2 j5 (by omega)
  · have e1 : (if jj < c.W then Sc.sb else Sc.kd) = .kd := if_neg hj
    rw [e1]
    obtain rfl : jj = c.W := by omega
    refine ⟨rfl, fun j hj' => ?_⟩
    rw [show LL5 = LL5u from rfl]
    simp (config := { decide := true }) only [LL5u, REST20, tailFrom, firstId, findLoop, blockOf, body5, Try.f5, Option.getD_some, Option.bind_some, reduceIte, Option.some.injEq, Nat.reduceEqDiff, reduceCtorEq]
    (refine GU.ctl hp rfl (fun _ => stepG_seq) ?_; refine GU.ctl hp rfl (fun _ => stepG_region) ?_; simp only [List.size_toArray, List.length_cons, List.length_nil, Nat.reduceAdd, Nat.zero_add, List.range, List.range.loop]; refine GU.value hp _ rfl rfl (by k_ne) (fun _ => by go_simp <;> rfl) (fun _ => by simp [go_sem, *]) ?_; walk_nrm; refine GU.ctl hp rfl (fun _ => stepG_region_end) ?_; refine GU.ctl hp rfl (fun _ => stepG_seq) ?_; refine GU.ctl hp rfl (fun _ => stepG_cond (t := false) rfl) ?_; simp only [if_true, if_false, Bool.false_eq_true, ↓reduceIte]; refine GU.ctl hp rfl (fun _ => stepG_exit rfl) ?_; refine GU.ctl hp rfl (fun _ => stepG_seq) ?_; refine GU.ctl hp rfl (fun _ => stepG_region) ?_; simp only [List.size_toArray, List.length_cons, List.length_nil, Nat.reduceAdd, Nat.zero_add, List.range, List.range.loop])
    (refine GU.call hp rfl rfl (by k_ne) rfl Try.func12 nm12 rfl ?_; walk_nrmf Try.f12)
    have hh := waitL (q := q) (Anch := Anch) (vs := vs) (k := k) (b₁ := Go.Conc.base 5) (a₁ := ⟨#[.pointer (some ⟨c.A, 0, none⟩), t1, t2, .pointer (some ⟨V.bA, 0, none⟩), .pointer (some ⟨V.bN, 0, none⟩), .pointer (some ⟨V.bK, 0, none⟩), t6, .pointer (some ⟨V.bAt, 0, none⟩), t8, t9, t10, t11, t12, .pointer (some ⟨V.bF, 0, none⟩), .pointer (some ⟨c.Wg, 0, none⟩), j15, t16, t17, t18, t19, t20, t21, t22, t23, t24, t25, t26, t27, t28, t29, t30, t31, t32, t33, t34, t35, t36, t37, t38, t39, t40, t41, t42, t43, t44, t45, t46, t47, t48, .int .i64 (c.W : Int), .int .i64 (c.W : Int), .bool false, j52, j53, j54, j55, j56, t57, t58, t59, t60, t61, t62, t63, t64, t65, t66, t67, t68, t69, t70, t71, t72, t73, t74, t75, t76], []⟩) (ops₁ := ops20) (i₁ := 0) (rest₁ := []) (k₁ := [.code REST21]) (cs := cs) K (by omega) (fun w s g' h1 h2 h3 => hA w s g' h1 h2 ⟨j15, .int .i64 (c.W : Int), .bool false, j52, j53, j54, j55, by exact h3⟩) bx
    rw [hqW] at hh
    exact hh.2 j hj'
end
end Go.Proofs.Ytnlopklbbajlbaa.Sw
