/- LightOnce: the walk through Unlock and unlockSlow. -/
import Derived.Test.YtnlopklbbajlbaaSwK4
set_option linter.unusedVariables false
set_option linter.unusedSimpArgs false
namespace Go.Proofs.Ytnlopklbbajlbaa.Sw
open Go Go.Conc Go.ConcN Go.RowKit
open Go.ConcR (DC0 stA smA)

theorem z36 : (Try.prog.info? 36).map (fun i => decide (i.size = 0)) = some false := by kernel_rfl
theorem u93 : Try.prog.underlying 93 = some (.pointer 36) := by kernel_rfl
theorem u61 : Try.prog.underlying 61 = some .unsafePointer := by kernel_rfl

/-- A pointer to 'unsafe.Pointer'. -/
theorem GU.conv {P : Program} {main : Bool} {R : World → World → Prop} {Stop : Goroutine → World → Prop} {p : World → Prop} {b : Frame} {a : Act} {k : List Item} {cs : List Frame}
    (hp : Kept R p) {ops : Array Oper} {i : Nat} {rest : List Nat} {o : Oper} {src dst t : TypeId} {x : Operand} {ad : Addr} (ho : ops[i]? = some o) (hw : Region.wanted o (yielded ops a.tmps) = true) (hk : b.kind ≠ .early)
    (hop : o.op = .convert src dst x) (hx : a.eval x = .pointer (some ad)) (hs : P.underlying src = some (.pointer t)) (hd : P.underlying dst = some .unsafePointer) (hz : (P.info? t).map (fun i => decide (i.size = 0)) = some false)
    (hc : ∀ w, p w → ∃ v, w.cell? ad = some v)
    (n : GU P main R Stop p (G (b.at (a.put o.dst (.pointer (some ad))) (.inRegion ops rest :: k)) cs)) : GU P main R Stop p (G (b.at a (.inRegion ops (i :: rest) :: k)) cs) := by
  refine GU.valueP hp _ ho hw hk (fun w h => ?_) (fun w h => ?_) n
  · obtain ⟨v, hv⟩ := hc w h
    unfold execOp
    simp only [hop, hx]
    simp [go_sem, run_convert_to_unsafe hs hd hz hv]
  · obtain ⟨v, hv⟩ := hc w h
    unfold execOp
    simp only [hop, hx]
    simp [go_sem, events_convert_to_unsafe hs hd hz hv]
/-- .. a plain load in a function that is 'norace'. -/
theorem GU.loadQ {main : Bool} {R : World → World → Prop} {Stop : Goroutine → World → Prop} {p : World → Prop} {b : Frame} {a : Act} {k : List Item} {cs : List Frame}
    (hp : Kept R p) {ops : Array Oper} {i : Nat} {rest : List Nat} {o : Oper} {x : Operand} {ad : Addr} {v : Int} (ho : ops[i]? = some o) (hw : Region.wanted o (yielded ops a.tmps) = true) (hk : b.kind ≠ .early)
    (hop : o.op = .load 21 x) (hx : a.eval x = .pointer (some ad)) (hq : (Try.prog.funcs[b.fn]?).any (·.norace) = true) (hc : ∀ w, p w → w.cell? ad = some (.int .i32 v))
    (n : GU Try.prog main R Stop p (G (b.at (a.put o.dst (.int .i32 v)) (.inRegion ops rest :: k)) cs)) : GU Try.prog main R Stop p (G (b.at a (.inRegion ops (i :: rest) :: k)) cs) :=
  .step hp rfl (fun w h => by rw [stepG_loadQ ho hw hk hop hx (hc w h) hq]; exact ⟨rfl, rfl, rfl⟩) n

/-- .. whose value nobody uses. -/
theorem GU.loadAny {main : Bool} {R : World → World → Prop} {Stop : Goroutine → World → Prop} {p : World → Prop} {b : Frame} {a : Act} {k : List Item} {cs : List Frame}
    (hp : Kept R p) {ops : Array Oper} {i : Nat} {rest : List Nat} {o : Oper} {x : Operand} {ad : Addr} (ho : ops[i]? = some o) (hw : Region.wanted o (yielded ops a.tmps) = true) (hk : b.kind ≠ .early)
    (hop : o.op = .load 21 x) (hx : a.eval x = .pointer (some ad)) (hq : (Try.prog.funcs[b.fn]?).any (·.norace) = true) (hc : ∀ w, p w → ∃ v, w.cell? ad = some (.int .i32 v))
    (n : GUf Try.prog main R Stop p (fun v => G (b.at (a.put o.dst (.int .i32 v)) (.inRegion ops rest :: k)) cs)) : GU Try.prog main R Stop p (G (b.at a (.inRegion ops (i :: rest) :: k)) cs) :=
  .fam hp rfl (fun w h => by
    obtain ⟨v, hv⟩ := hc w h
    exact ⟨v, stepG_loadQ ho hw hk hop hx hv hq⟩) n
theorem GUf.conv {P : Program} {main : Bool} {R : World → World → Prop} {Stop : Goroutine → World → Prop} {p : World → Prop} {b : Frame} {a : Int → Act} {k : List Item} {cs : List Frame}
    (hp : Kept R p) {ops : Array Oper} {i : Nat} {rest : List Nat} {o : Oper} {src dst t : TypeId} {x : Operand} {ad : Addr} (ho : ops[i]? = some o) (hw : ∀ v, Region.wanted o (yielded ops (a v).tmps) = true) (hk : b.kind ≠ .early)
    (hop : o.op = .convert src dst x) (hx : ∀ v, (a v).eval x = .pointer (some ad)) (hs : P.underlying src = some (.pointer t)) (hd : P.underlying dst = some .unsafePointer) (hz : (P.info? t).map (fun i => decide (i.size = 0)) = some false)
    (hc : ∀ w, p w → ∃ v, w.cell? ad = some v)
    (n : GUf P main R Stop p (fun v => G (b.at ((a v).put o.dst (.pointer (some ad))) (.inRegion ops rest :: k)) cs)) : GUf P main R Stop p (fun v => G (b.at (a v) (.inRegion ops (i :: rest) :: k)) cs) := by
  refine GUf.ctl hp (fun _ => rfl) (fun v w h => ?_) n
  obtain ⟨x, hv⟩ := hc w h
  have hr : (execOp (a v).eval o).run P w = .ok (.value (.pointer (some ad))) w := by
    unfold execOp
    simp only [hop, hx]
    simp [go_sem, run_convert_to_unsafe hs hd hz hv]
  have he : (execOp (a v).eval o).events P w #[] = #[] := by
    unfold execOp
    simp only [hop, hx]
    simp [go_sem, events_convert_to_unsafe hs hd hz hv]
  rw [stepG_value ho (hw v) hk hr]
  unfold listed
  rw [he, seen_none]
theorem GUf.move {P : Program} {main : Bool} {R : World → World → Prop} {Stop : Goroutine → World → Prop} {p : World → Prop} {b : Frame} {a : Int → Act} {k : List Item} {cs : List Frame}
    (hp : Kept R p) {ops : Array Oper} {i : Nat} {rest : List Nat} {o : Oper} {x : Operand} {y : Value} (ho : ops[i]? = some o) (hw : ∀ v, Region.wanted o (yielded ops (a v).tmps) = true) (hk : b.kind ≠ .early)
    (hop : o.op = .move x) (hx : ∀ v, (a v).eval x = y)
    (n : GUf P main R Stop p (fun v => G (b.at ((a v).put o.dst y) (.inRegion ops rest :: k)) cs)) : GUf P main R Stop p (fun v => G (b.at (a v) (.inRegion ops (i :: rest) :: k)) cs) := by
  refine GUf.ctl hp (fun _ => rfl) (fun v w h => ?_) n
  have hr : (execOp (a v).eval o).run P w = .ok (.value y) w := by
    unfold execOp
    simp only [hop, hx]
    simp [go_sem]
  have he : (execOp (a v).eval o).events P w #[] = #[] := by
    unfold execOp
    simp only [hop, hx]
    simp [go_sem]
  rw [stepG_value ho (hw v) hk hr]
  unfold listed
  rw [he, seen_none]

noncomputable def body45 : Code := Try.f45.body.getD .skip
noncomputable def body53 : Code := Try.f53.body.getD .skip
noncomputable def body30 : Code := Try.f30.body.getD .skip


/-- 'race.Enable()' and its like. -/
theorem sEnable {main : Bool} {b : Frame} {a : Act} {k : List Item} {cs : List Frame} {w : World} {ops : Array Oper} {i : Nat} {rest : List Nat} {o : Oper} {xs : Array Operand} {ats : Array TypeId} (ho : ops[i]? = some o) (hw : Region.wanted o (yielded ops a.tmps) = true) (hk : b.kind ≠ .early) (hop : o.op = .call { callee := .value (.func 16), args := xs, argTypes := ats }) :
    stepG Try.prog main (G (b.at a (.inRegion ops (i :: rest) :: k)) cs) w = .go (G (b.at (a.put o.dst (.tuple #[])) (.inRegion ops rest :: k)) cs) w #[mkE .enable] := stepG_mark0 .enable (by simp) ho hw hk hop Try.func16 x16_n x16_b x16_x x16_f
theorem sDisable {main : Bool} {b : Frame} {a : Act} {k : List Item} {cs : List Frame} {w : World} {ops : Array Oper} {i : Nat} {rest : List Nat} {o : Oper} {xs : Array Operand} {ats : Array TypeId} (ho : ops[i]? = some o) (hw : Region.wanted o (yielded ops a.tmps) = true) (hk : b.kind ≠ .early) (hop : o.op = .call { callee := .value (.func 15), args := xs, argTypes := ats }) :
    stepG Try.prog main (G (b.at a (.inRegion ops (i :: rest) :: k)) cs) w = .go (G (b.at (a.put o.dst (.tuple #[])) (.inRegion ops rest :: k)) cs) w #[mkE .disable] := stepG_mark0 .disable (by simp) ho hw hk hop Try.func15 x15_n x15_b x15_x x15_f
theorem sRelMerge {main : Bool} {b : Frame} {a : Act} {k : List Item} {cs : List Frame} {w : World} {ops : Array Oper} {i : Nat} {rest : List Nat} {o : Oper} {xs : Array Operand} {ats : Array TypeId} {ad : Addr} (ho : ops[i]? = some o) (hw : Region.wanted o (yielded ops a.tmps) = true) (hk : b.kind ≠ .early) (hop : o.op = .call { callee := .value (.func 14), args := xs, argTypes := ats }) (hx : (xs.map a.eval)[0]? = some (.pointer (some ad))) :
    stepG Try.prog main (G (b.at a (.inRegion ops (i :: rest) :: k)) cs) w = .go (G (b.at (a.put o.dst (.tuple #[])) (.inRegion ops rest :: k)) cs) w #[mkE (.releaseMerge ad)] := stepG_markAt .releaseMerge (by simp) ho hw hk hop Try.func14 x14_n x14_b x14_x x14_f hx
theorem sAcquire {main : Bool} {b : Frame} {a : Act} {k : List Item} {cs : List Frame} {w : World} {ops : Array Oper} {i : Nat} {rest : List Nat} {o : Oper} {xs : Array Operand} {ats : Array TypeId} {ad : Addr} (ho : ops[i]? = some o) (hw : Region.wanted o (yielded ops a.tmps) = true) (hk : b.kind ≠ .early) (hop : o.op = .call { callee := .value (.func 32), args := xs, argTypes := ats }) (hx : (xs.map a.eval)[0]? = some (.pointer (some ad))) :
    stepG Try.prog main (G (b.at a (.inRegion ops (i :: rest) :: k)) cs) w = .go (G (b.at (a.put o.dst (.tuple #[])) (.inRegion ops rest :: k)) cs) w #[mkE (.acquire ad)] := stepG_markAt .acquire (by simp) ho hw hk hop Try.func32 x32_n x32_b x32_x x32_f hx
theorem atm_rw (a : Addr) : Atm a #[⟨.cell a, false, true⟩, ⟨.cell a, true, true⟩] := by
  intro e he
  simp at he
  rcases he with rfl | rfl
  · exact ⟨_, rfl⟩
  · exact ⟨_, rfl⟩
theorem atm_r (a : Addr) (x : Bool) : Atm a #[⟨.cell a, x, true⟩] := by
  intro e he
  simp at he
  subst he
  exact ⟨_, rfl⟩
theorem enc_unl (x : MuW) (h : x.n < 64) (hl : x.l = true) : IntKind.i32.wrap (enc x + -1) = enc { x with l := false } := by
  have := b_rng x h
  have e : enc x + -1 = enc { x with l := false } := by simp only [enc, hl]; simp; omega
  rw [e, IntKind.wrap_i32]
  have := b_rng { x with l := false } h
  omega

def findLoop : Code → Option Code
  | .loop c => some c
  | .seq x y => match findLoop x with | some c => some c | none => findLoop y
  | .cond _ x y => match findLoop x with | some c => some c | none => findLoop y
  | .block _ c => findLoop c
  | _ => none
noncomputable def LL53 : Code := (findLoop body53).getD .skip
def ready (x : MuW) : Bool := x.l || x.k || x.s || decide (x.n = 0)

section
variable {c : TC} {q : AP} {bx : Nat} {p : World → Prop}
set_option maxRecDepth 100000 in
set_option maxHeartbeats 16000000 in
theorem slowHead (K : KN c bx p) (hB : q.B < 64) {o : Nat} {b : Bool} (hm : mxA c b = ⟨c.A, o, none⟩) (hms : msA c b = ⟨c.A, o + 1, none⟩) {i it m : Nat} {aw sv r : Bool} {cs : List Frame} {b₁ : Frame} {a₁ : Act} {ops₁ : Array Oper} {i₁ : Nat} {rest₁ : List Nat} {k₁ : List Item} (k₀ : Nat)
    (next : ∀ old, WU c q bx p k₀ ⟨.ue, 0, b, i, old, aw, sv, it, r, bx, m⟩ (G (b₁.at (a₁.put ((ops₁[i₁]?).bind (·.dst)) (.tuple #[])) (.inRegion ops₁ rest₁ :: k₁)) cs)) :
    ∀ k, k ≤ k₀ → ∀ (x : MuW), x.n < 64 → ∀ (j1 j2 j3 j5 j6 j7 j8 j9 j10 j11 j12 j13 j14 j15 j16 j17 j18 j19 j20 j21 j22 j23 j24 j25 j26 j27 j28 j29 j30 j31 j32 j33 j34 j35 j36 j37 j38 j39 j40 j41 j42 : Value) (old : MuW), (ready x = false → old = x) →
    WU c q bx p k ⟨if ready x then .ue else .uc, 0, b, i, old, aw, sv, it, r, bx, m⟩ (G ((Go.Conc.base 53).at ⟨#[.pointer (some ⟨c.A, o, none⟩), j1, j2, j3, .int .i32 (enc x), j5, j6, j7, j8, j9, j10, j11, j12, j13, j14, j15, j16, j17, j18, j19, j20, j21, j22, j23, j24, j25, j26, j27, j28, j29, j30, j31, j32, j33, j34, j35, j36, j37, j38, j39, j40, j41, j42], []⟩ [.code LL53, .inLoop LL53, .inBlock 0]) (b₁.at a₁ (.inRegion ops₁ (i₁ :: rest₁) :: k₁) :: cs)) := by
  have hp := K.st
  intro k
  induction k using Nat.strongRecOn with
  | _ k ih =>
  intro hk x hn j1 j2 j3 j5 j6 j7 j8 j9 j10 j11 j12 j13 j14 j15 j16 j17 j18 j19 j20 j21 j22 j23 j24 j25 j26 j27 j28 j29 j30 j31 j32 j33 j34 j35 j36 j37 j38 j39 j40 j41 j42 old hold
  refine ⟨rfl, fun j hj => ?_⟩
  simp only [LL53, body53, findLoop, Try.f53, Option.getD_some]
  (refine GU.ctl hp rfl (fun _ => stepG_block) ?_; (iterate 2 (refine GU.ctl hp rfl (fun _ => stepG_seq) ?_)); refine GU.ctl hp rfl (fun _ => stepG_region) ?_; simp only [List.size_toArray, List.length_cons, List.length_nil, Nat.reduceAdd, Nat.zero_add, List.range, List.range.loop]; (iterate 4 (refine GU.value hp _ rfl rfl (by k_ne) (fun _ => by go_simp <;> rfl) (fun _ => by simp [go_sem, *]) ?_; walk_nrm)))
  rw [d_sh _ hn]
  by_cases h0 : x.n = 0
  · simp only [h0, decide_true]
    ((iterate 3 (refine GU.unwanted hp rfl rfl ?_; walk_nrm)); refine GU.value hp _ rfl rfl (by k_ne) (fun _ => by go_simp <;> rfl) (fun _ => by simp [go_sem, *]) ?_; walk_nrm; refine GU.ctl hp rfl (fun _ => stepG_region_end) ?_; refine GU.ctl hp rfl (fun _ => stepG_cond (t := true) rfl) ?_; simp only [if_true, if_false, Bool.false_eq_true, ↓reduceIte]; refine GU.ctl hp rfl (fun _ => stepG_ret') ?_)
    (refine GU.leave0 hp rfl rfl Try.func53 rfl ?_; walk_nrm)
    have hr : ready x = true := by simp [ready, h0]
    rw [hr]
    exact (next old).2 j (by omega)
  simp only [h0, decide_false]
  ((iterate 4 (refine GU.value hp _ rfl rfl (by k_ne) (fun _ => by go_simp <;> rfl) (fun _ => by simp [go_sem, *]) ?_; walk_nrm)); refine GU.ctl hp rfl (fun _ => stepG_region_end) ?_)
  rw [d_7n _ hn]
  rcases hr0 : (x.l || x.k || x.s) with _ | _
  · -- to the swap
    have hr : ready x = false := by simp only [ready, hr0, h0, decide_false, Bool.or_false]
    obtain rfl := hold hr
    simp only [hr, Bool.false_eq_true, if_false]
    (refine GU.ctl hp rfl (fun _ => stepG_cond (t := false) rfl) ?_; simp only [if_true, if_false, Bool.false_eq_true, ↓reduceIte]; refine GU.ctl hp rfl (fun _ => stepG_skip) ?_; refine GU.ctl hp rfl (fun _ => stepG_seq) ?_; refine GU.ctl hp rfl (fun _ => stepG_region) ?_; simp only [List.size_toArray, List.length_cons, List.length_nil, Nat.reduceAdd, Nat.zero_add, List.range, List.range.loop]; (iterate 4 (refine GU.value hp _ rfl rfl (by k_ne) (fun _ => by go_simp <;> rfl) (fun _ => by simp [go_sem, *]) ?_; walk_nrm)); refine GU.ctl hp rfl (fun _ => stepG_region_end) ?_; (iterate 2 (refine GU.ctl hp rfl (fun _ => stepG_seq) ?_)); refine GU.ctl hp rfl (fun _ => stepG_region) ?_; simp only [List.size_toArray, List.length_cons, List.length_nil, Nat.reduceAdd, Nat.zero_add, List.range, List.range.loop]; (iterate 5 (refine GU.value hp _ rfl rfl (by k_ne) (fun _ => by go_simp <;> rfl) (fun _ => by simp [go_sem, *]) ?_; walk_nrm)))
    rw [d_dec _ hn (by omega)]
    -- STOP uc
    refine stopW K rfl rfl rfl (by simp) (by simp) (fun w s hw hs hf => ?_)
    have hcell : w.cell? ⟨c.A, o, none⟩ = some (.int .i32 (enc (s.mx b).w)) := by rw [← hm]; exact hs.cMx b
    by_cases he : (s.mx b).w = old
    · have hset := hs.setMx b { (s.mx b).w with n := (s.mx b).w.n - 1, k := true }
      rw [hm] at hset
      rw [he] at hcell
      refine ⟨⟨.us, 0, b, i, old, aw, sv, it, r, bx, m⟩, 0, s.put b ⟨{ (s.mx b).w with n := (s.mx b).w.n - 1, k := true }, (s.mx b).sem⟩, _, _, _, by simp [Step, he], by simp [bare], stepG_cas_hit rfl rfl (by k_ne) rfl Try.func50 x50_n x50_b x50_x .i32 x50_f rfl rfl rfl hcell (hs.thA o), by rw [he] at hset ⊢; exact hset, Eff.set _ _ _ _ _ (.inl rfl), (aside_setCell _ _ _).size, by simp only [EvW]; rw [hm]; exact atm_rw _, by simp, ?_⟩
      clear hset hcell
      clear he
      (clear hw hs hf; refine ⟨rfl, fun j hj => ?_⟩; walk_nrm)
      (refine GU.ctl hp rfl (fun _ => stepG_region_end) ?_; refine GU.ctl hp rfl (fun _ => stepG_cond (t := true) rfl) ?_; simp only [if_true, if_false, Bool.false_eq_true, ↓reduceIte]; refine GU.ctl hp rfl (fun _ => stepG_seq) ?_; refine GU.ctl hp rfl (fun _ => stepG_region) ?_; simp only [List.size_toArray, List.length_cons, List.length_nil, Nat.reduceAdd, Nat.zero_add, List.range, List.range.loop]; (iterate 3 (refine GU.value hp _ rfl rfl (by k_ne) (fun _ => by go_simp <;> rfl) (fun _ => by simp [go_sem, *]) ?_; walk_nrm)))
      -- STOP us
      refine stopW K rfl rfl rfl (by simp) (fun _ => Go.ConcR.Gen.mayWake_entry rfl rfl Try.func62 x62_b) (fun w s hw hs hf => ?_)
      have h62 : IntKind.u32.wrap ((((s.mx b).sem : Nat) : Int) + 1) = (((s.mx b).sem + 1 : Nat) : Int) := by
        have := (hf.bnd b).2
        rw [IntKind.wrap_u32]
        omega
      have hset := hs.setMs b ((s.mx b).sem + 1)
      rw [hms] at hset
      refine ⟨⟨.ue, 0, b, i, old, aw, sv, it, r, bx, m⟩, 0, s.put b ⟨(s.mx b).w, (s.mx b).sem + 1⟩, _, _, _, by simp [Step], by simp [bare], stepG_semrelease rfl rfl (by k_ne) rfl Try.func62 x62_n x62_b x62_x x62_f (ad := ⟨c.A, o + 1, none⟩) (by simp [Act.eval]) (by rw [← hms]; exact hs.cMs b) (hs.thA _), by rw [h62]; exact hset, Eff.set _ _ _ _ _ (.inl rfl), (aside_setCell _ _ _).size, by simp only [EvW]; rw [hms]; rfl, by simp, ?_⟩
      clear hset h62
      (clear hw hs hf; refine ⟨rfl, fun j hj => ?_⟩; walk_nrm)
      (refine GU.ctl hp rfl (fun _ => stepG_region_end) ?_; refine GU.ctl hp rfl (fun _ => stepG_ret') ?_)
      (refine GU.leave0 hp rfl rfl Try.func53 rfl ?_; walk_nrm)
      exact (next old).2 j (by omega)
    · refine ⟨⟨.ux, 0, b, i, old, aw, sv, it, r, bx, m⟩, 0, s, _, _, _, by simp [Step, he], by simp [bare], stepG_cas_miss rfl rfl (by k_ne) rfl Try.func50 x50_n x50_b x50_x .i32 x50_f rfl rfl rfl hcell (hs.thA o) (enc_ne he), hs, Eff.refl _ _ _, rfl, by simp only [EvW]; rw [hm]; exact atm_r _ _, by simp, ?_⟩
      clear hcell
      clear he
      (clear hw hs hf; refine ⟨rfl, fun j hj => ?_⟩; walk_nrm)
      (refine GU.ctl hp rfl (fun _ => stepG_region_end) ?_; refine GU.ctl hp rfl (fun _ => stepG_cond (t := false) rfl) ?_; simp only [if_true, if_false, Bool.false_eq_true, ↓reduceIte]; refine GU.ctl hp rfl (fun _ => stepG_skip) ?_; refine GU.ctl hp rfl (fun _ => stepG_region) ?_; simp only [List.size_toArray, List.length_cons, List.length_nil, Nat.reduceAdd, Nat.zero_add, List.range, List.range.loop]; (iterate 3 (refine GU.value hp _ rfl rfl (by k_ne) (fun _ => by go_simp <;> rfl) (fun _ => by simp [go_sem, *]) ?_; walk_nrm)))
      -- STOP ux
      refine stopW K rfl rfl rfl (by simp) (by simp) (fun w s hw hs hf => ?_)
      have hcell : w.cell? ⟨c.A, o, none⟩ = some (.int .i32 (enc (s.mx b).w)) := by rw [← hm]; exact hs.cMx b
      have hn' : (s.mx b).w.n < 64 := by have := (hf.bnd b).1; omega
      refine ⟨⟨if ready (s.mx b).w then .ue else .uc, 0, b, i, if ready (s.mx b).w then old else (s.mx b).w, aw, sv, it, r, bx, m⟩, 0, s, _, _, _, ?_, by simp, stepG_loadQ rfl rfl (by k_ne) rfl rfl hcell q53, hs, Eff.refl _ _ _, rfl, by simp [EvW], by cases ready (s.mx b).w <;> simp, ?_⟩
      · simp only [Step]
        refine ⟨?_, trivial⟩
        rcases hr : ready (s.mx b).w with _ | _
        · refine .inr ?_
          simp only [ready, Bool.or_eq_false_iff, decide_eq_false_iff_not] at hr
          exact ⟨hr.1.1.1, hr.1.1.2, hr.1.2, by omega, rfl⟩
        · refine .inl ⟨?_, rfl⟩
          simp only [ready, Bool.or_eq_true, decide_eq_true_eq] at hr
          rcases hr with ((h | h) | h) | h
          · exact .inl h
          · exact .inr (.inl h)
          · exact .inr (.inr (.inl h))
          · exact .inr (.inr (.inr h))
      generalize (s.mx b).w = x at hn' ⊢
      clear hw hs hf hcell
      have hh := ih _ (by omega) (by omega) x hn'
      refine ⟨rfl, fun j hj => ?_⟩
      walk_nrm
      (refine GU.value hp _ rfl rfl (by k_ne) (fun _ => by go_simp <;> rfl) (fun _ => by simp [go_sem, *]) ?_; walk_nrm; refine GU.ctl hp rfl (fun _ => stepG_region_end) ?_; refine GU.ctl hp rfl (fun _ => stepG_inBlock) ?_)
      refine GU.ctl hp rfl (fun _ => stepG_inLoop) ?_
      simp only [LL53, body53, findLoop, Try.f53, Option.getD_some] at hh
      refine (hh _ _ _ _ _ _ _ _ _ _ _ _ _ _ _ _ _ _ _ _ _ _ _ _ _ _ _ _ _ _ _ _ _ _ _ _ _ _ _ _ _ (if ready x = true then old else x) (fun h => by rw [h]; rfl)).2 j (by omega)
  · have hr : ready x = true := by simp only [ready, hr0, Bool.true_or]
    (refine GU.ctl hp rfl (fun _ => stepG_cond (t := true) rfl) ?_; simp only [if_true, if_false, Bool.false_eq_true, ↓reduceIte]; refine GU.ctl hp rfl (fun _ => stepG_ret') ?_)
    (refine GU.leave0 hp rfl rfl Try.func53 rfl ?_; walk_nrm)
    rw [hr]
    exact (next old).2 j (by omega)

/-- unlockSlow, from its entry: the word x as it was left, unlocked. -/
theorem slowUnlock (K : KN c bx p) (hB : q.B < 64) {o : Nat} {b : Bool} (hm : mxA c b = ⟨c.A, o, none⟩) (hms : msA c b = ⟨c.A, o + 1, none⟩) {i it m : Nat} {aw sv r : Bool} {cs : List Frame} {b₁ : Frame} {a₁ : Act} {ops₁ : Array Oper} {i₁ : Nat} {rest₁ : List Nat} {k₁ : List Item} (k₀ : Nat)
    (next : ∀ old, WU c q bx p k₀ ⟨.ue, 0, b, i, old, aw, sv, it, r, bx, m⟩ (G (b₁.at (a₁.put ((ops₁[i₁]?).bind (·.dst)) (.tuple #[])) (.inRegion ops₁ rest₁ :: k₁)) cs))
    (x : MuW) (hn : x.n < 64) (hl : x.l = false) (old : MuW) (hold : x.s = false → ready x = false → old = x) :
    WU c q bx p k₀ ⟨if x.s then .us else if ready x then .ue else .uc, 0, b, i, old, aw, sv, it, r, bx, m⟩ (G ((Go.Conc.base 53).at ⟨#[.pointer (some ⟨c.A, o, none⟩), .int .i32 (enc x), undef, undef, undef, undef, undef, undef, undef, undef, undef, undef, undef, undef, undef, undef, undef, undef, undef, undef, undef, undef, undef, undef, undef, undef, undef, undef, undef, undef, undef, undef, undef, undef, undef, undef, undef, undef, undef, undef, undef, undef, undef], []⟩ [.code body53]) (b₁.at a₁ (.inRegion ops₁ (i₁ :: rest₁) :: k₁) :: cs)) := by
  have hp := K.st
  have hh := slowHead (aw := aw) (sv := sv) (it := it) (r := r) (m := m) (i := i) K hB hm hms k₀ next
  refine ⟨rfl, fun j hj => ?_⟩
  simp only [body53, Try.f53, Option.getD_some]
  ((iterate 2 (refine GU.ctl hp rfl (fun _ => stepG_seq) ?_)); refine GU.ctl hp rfl (fun _ => stepG_region) ?_; simp only [List.size_toArray, List.length_cons, List.length_nil, Nat.reduceAdd, Nat.zero_add, List.range, List.range.loop]; (iterate 4 (refine GU.value hp _ rfl rfl (by k_ne) (fun _ => by go_simp <;> rfl) (fun _ => by simp [go_sem, *]) ?_; walk_nrm)); refine GU.ctl hp rfl (fun _ => stepG_region_end) ?_)
  rw [d_i1 _ hn, hl]
  (refine GU.ctl hp rfl (fun _ => stepG_cond (t := false) rfl) ?_; simp only [if_true, if_false, Bool.false_eq_true, ↓reduceIte]; refine GU.ctl hp rfl (fun _ => stepG_skip) ?_; refine GU.ctl hp rfl (fun _ => stepG_seq) ?_; refine GU.ctl hp rfl (fun _ => stepG_region) ?_; simp only [List.size_toArray, List.length_cons, List.length_nil, Nat.reduceAdd, Nat.zero_add, List.range, List.range.loop]; (iterate 3 (refine GU.value hp _ rfl rfl (by k_ne) (fun _ => by go_simp <;> rfl) (fun _ => by simp [go_sem, *]) ?_; walk_nrm)); refine GU.ctl hp rfl (fun _ => stepG_region_end) ?_)
  rw [d_4e _ hn]
  rcases hs : x.s with _ | _
  · simp only [Bool.not_false, Bool.false_eq_true, if_false]
    (refine GU.ctl hp rfl (fun _ => stepG_cond (t := true) rfl) ?_; simp only [if_true, if_false, Bool.false_eq_true, ↓reduceIte]; refine GU.ctl hp rfl (fun _ => stepG_seq) ?_; refine GU.ctl hp rfl (fun _ => stepG_region) ?_; simp only [List.size_toArray, List.length_cons, List.length_nil, Nat.reduceAdd, Nat.zero_add, List.range, List.range.loop]; (iterate 2 (refine GU.value hp _ rfl rfl (by k_ne) (fun _ => by go_simp <;> rfl) (fun _ => by simp [go_sem, *]) ?_; walk_nrm)); refine GU.ctl hp rfl (fun _ => stepG_region_end) ?_; refine GU.ctl hp rfl (fun _ => stepG_block) ?_)
    refine GU.ctl hp rfl (fun _ => stepG_loop) ?_
    simp only [LL53, body53, findLoop, Try.f53, Option.getD_some] at hh
    exact (hh k₀ (Nat.le_refl _) x hn _ _ _ _ _ _ _ _ _ _ _ _ _ _ _ _ _ _ _ _ _ _ _ _ _ _ _ _ _ _ _ _ _ _ _ _ _ _ _ _ _ old (hold hs)).2 j hj
  · simp only [Bool.not_true, if_true]
    (refine GU.ctl hp rfl (fun _ => stepG_cond (t := false) rfl) ?_; simp only [if_true, if_false, Bool.false_eq_true, ↓reduceIte]; refine GU.ctl hp rfl (fun _ => stepG_region) ?_; simp only [List.size_toArray, List.length_cons, List.length_nil, Nat.reduceAdd, Nat.zero_add, List.range, List.range.loop]; (iterate 3 (refine GU.value hp _ rfl rfl (by k_ne) (fun _ => by go_simp <;> rfl) (fun _ => by simp [go_sem, *]) ?_; walk_nrm)))
    -- STOP us
    refine stopW K rfl rfl rfl (by simp) (fun _ => Go.ConcR.Gen.mayWake_entry rfl rfl Try.func62 x62_b) (fun w s hw hs hf => ?_)
    have h62 : IntKind.u32.wrap ((((s.mx b).sem : Nat) : Int) + 1) = (((s.mx b).sem + 1 : Nat) : Int) := by
      have := (hf.bnd b).2
      rw [IntKind.wrap_u32]
      omega
    have hset := hs.setMs b ((s.mx b).sem + 1)
    rw [hms] at hset
    refine ⟨⟨.ue, 0, b, i, old, aw, sv, it, r, bx, m⟩, 0, s.put b ⟨(s.mx b).w, (s.mx b).sem + 1⟩, _, _, _, by simp [Step], by simp [bare], stepG_semrelease rfl rfl (by k_ne) rfl Try.func62 x62_n x62_b x62_x x62_f (ad := ⟨c.A, o + 1, none⟩) (by simp [Act.eval]) (by rw [← hms]; exact hs.cMs b) (hs.thA _), by rw [h62]; exact hset, Eff.set _ _ _ _ _ (.inl rfl), (aside_setCell _ _ _).size, by simp only [EvW]; rw [hms]; rfl, by simp, ?_⟩
    clear hset h62
    (clear hw hs hf; refine ⟨rfl, fun j hj => ?_⟩; walk_nrm)
    (refine GU.ctl hp rfl (fun _ => stepG_region_end) ?_; refine GU.ctl hp rfl (fun _ => stepG_end) ?_)
    (refine GU.leave0 hp rfl rfl Try.func53 rfl ?_; walk_nrm)
    exact (next old).2 j (by omega)
end
end Go.Proofs.Ytnlopklbbajlbaa.Sw
