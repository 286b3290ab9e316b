/- LightOnce: the walk through a deferred wg.Done(). -/
import Derived.Test.YtnlopklbbajlbaaSwKQ
set_option linter.unusedVariables false
set_option linter.unusedSimpArgs false
set_option maxRecDepth 100000
namespace Go.Proofs.Ytnlopklbbajlbaa.Sw
open Go Go.Conc Go.ConcN Go.RowKit
open Go.ConcR (DC0 stA smA)
noncomputable def body10 : Code := Try.f10.body.getD .skip
theorem z55 : (Try.prog.info? 55).map (fun i => decide (i.size = 0)) = some false := by kernel_rfl
theorem u59 : Try.prog.underlying 59 = some (.pointer 55) := by kernel_rfl

/-! ### the group's word -/
def wgE (a b : Nat) : Int := ((a * 4294967296 + b : Nat) : Int)
theorem tw_and : ∀ (a : Fin 32) (b : Fin 2), (bits .and .u64 (wgE a b) 2147483648 != 0) = false := by decide +kernel
theorem tw_lo : ∀ (a : Fin 32) (b : Fin 2), IntKind.u32.wrap (bits .and .u64 (wgE a b) 2147483647) = (b.val : Int) := by decide +kernel
theorem tw_lo2 : ∀ (a : Fin 32) (b : Fin 2), bits .and .u64 (wgE a b) 2147483647 = (b.val : Int) := by decide +kernel
theorem tw_hi : ∀ (a : Fin 32) (b : Fin 2), IntKind.i32.wrap (wgE a b / 4294967296) = (a.val : Int) := by decide +kernel
theorem tw_dec : ∀ (a : Fin 32) (b : Fin 2), 1 ≤ a.val → IntKind.u64.wrap (wgE a b + 18446744069414584320) = wgE (a.val - 1) b.val := by decide +kernel
theorem tw_inc : ∀ (a : Fin 32) (b : Fin 2), IntKind.u64.wrap (wgE a b + 4294967296) = wgE (a.val + 1) b.val := by decide +kernel
section
theorem w_and {a b : Nat} (ha : a < 32) (hb : b < 2) : (bits .and .u64 (wgE a b) 2147483648 != 0) = false := tw_and ⟨a, ha⟩ ⟨b, hb⟩
theorem w_lo {a b : Nat} (ha : a < 32) (hb : b < 2) : IntKind.u32.wrap (bits .and .u64 (wgE a b) 2147483647) = (b : Int) := tw_lo ⟨a, ha⟩ ⟨b, hb⟩
theorem w_lo2 {a b : Nat} (ha : a < 32) (hb : b < 2) : bits .and .u64 (wgE a b) 2147483647 = (b : Int) := tw_lo2 ⟨a, ha⟩ ⟨b, hb⟩
theorem w_hi {a b : Nat} (ha : a < 32) (hb : b < 2) : IntKind.i32.wrap (wgE a b / 4294967296) = (a : Int) := tw_hi ⟨a, ha⟩ ⟨b, hb⟩
theorem w_dec {a b : Nat} (ha : a < 32) (hb : b < 2) (h : 1 ≤ a) : IntKind.u64.wrap (wgE a b + 18446744069414584320) = wgE (a - 1) b := tw_dec ⟨a, ha⟩ ⟨b, hb⟩ h
theorem w_inc {a b : Nat} (ha : a < 32) (hb : b < 2) : IntKind.u64.wrap (wgE a b + 4294967296) = wgE (a + 1) b := tw_inc ⟨a, ha⟩ ⟨b, hb⟩
end
section
variable {c : TC} {q : AP} {bx : Nat} {p : World → Prop} {k : Nat} {T : Wk} {g : Goroutine}
/-- ITS LAST STOP. -/
theorem stopW_quit (K : KN c bx p) {j : Nat} (hst : g.status = .running) (hof : g.offers = none) (h0 : T.c = 0) (hpc : T.pc ≠ .bx ∧ T.pc ≠ .al ∧ T.pc ≠ .ms1)
    (hwk : (T.pc = .us ∨ T.pc = .d4) → mayWake Try.prog g = true)
    (h : ∀ w s, p w → ShAt 46 55 4 c w s → FitW q T s → ∃ X s' g' w' es, Step q.W q.n q.nm T s X s' ∧ X.c = 0 ∧ stepG Try.prog false g w = .go g' w' es ∧ ShAt 46 55 4 c w' s' ∧ Eff c s none w w' ∧ w'.heap.size = w.heap.size ∧ EvW c T s es ∧
      ((X.pc = .quit ∧ ∃ n, QuitsD Try.prog n 1 g') ∨ (X.pc ≠ .quit ∧ WU c q bx p j X g'))) :
    GU Try.prog false (RK 46 55 4 c (some bx)) (AtW Try.prog 46 55 4 c q (j + 1) T) p g := by
  refine GU.stop K.st fun w hw => ?_
  refine ⟨hst, hof, fun _ => hwk, fun s hs hf => ⟨fun hwt => absurd hwt.2.1 hpc.2.2, fun _ => ?_⟩⟩
  obtain ⟨X, s', g', w', es, h1, h2, h3, h4, h5, h6, h7, h9⟩ := h w s hw hs hf
  have hX : ({ X with c := 0 } : Wk) = X := by rw [← h2]
  refine ⟨X, s', g', w', es, .inr ⟨h0, X, 0, h1, hX.symm, Nat.zero_le _⟩, h3, h4, h5, h7, ?_, ?_⟩
  · rw [if_neg (by rintro ⟨_, h | h⟩ <;> simp_all)]
    exact h6
  · rcases h9 with ⟨e, hq⟩ | ⟨e, hq⟩
    · unfold AfterW
      rw [if_pos e]
      exact hq
    · exact afterW e (K.eff hw hs h5 h4 (st_keep h1 hf.locO)) hq
end

/-- More fuel does no harm. -/
theorem quitsD_more {P : Program} : ∀ {n d : Nat} {g : Goroutine}, QuitsD P n d g → QuitsD P (n + 1) d g
  | 0, _, _, h => .inl h
  | _ + 1, _, _, .inl h => .inl h
  | _ + 1, _, _, .inr ⟨hr, g', es, hm, hs, hq⟩ => .inr ⟨hr, g', es, hm, hs, quitsD_more hq⟩
theorem quitsD_le {P : Program} {n n' d : Nat} {g : Goroutine} (h : n ≤ n') (x : QuitsD P n d g) : QuitsD P n' d g := by
  obtain ⟨r, rfl⟩ := Nat.exists_eq_add_of_le h
  induction r with
  | zero => exact x
  | succ r ih => exact quitsD_more (ih (Nat.le_add_right _ _))
section
variable {c : TC} {q : AP} {bx : Nat} {p : World → Prop} {b : Bool} {i m : Nat} {r : Bool} {cs : List Frame} {cF : Frame} {qt : Nat}
set_option maxHeartbeats 16000000 in
/-- ████ A DEFERRED wg.Done(). ████ -/
theorem doneL (K : KN c bx p) (hW : q.W ≤ 16) (hcF : cF.mode = .returning) (hT : QuitsD Try.prog qt 0 (G cF cs)) (k : Nat) (old : MuW) (aw sv : Bool) (it : Nat) :
    WU c q bx p k ⟨.wr, 0, b, i, old, aw, sv, it, r, bx, m⟩ (G ((baseD 10).at ⟨#[.pointer (some ⟨c.Wg, 0, none⟩), undef, undef, undef], []⟩ [.code body10]) (cF :: cs)) := by
  have hp := K.st
  have hcg : ∀ w, p w → ∃ x : Int, w.cell? ⟨c.Wg, 0, none⟩ = some (.int .u64 x) := fun w hw => by
    obtain ⟨s, hs⟩ := K.live w hw
    exact ⟨_, hs.cSt⟩
  refine ⟨rfl, fun j hj => ?_⟩
  simp only [body10, Try.f10, Option.getD_some]
  (refine GU.ctl hp rfl (fun _ => stepG_region) ?_; simp only [List.size_toArray, List.length_cons, List.length_nil, Nat.reduceAdd, Nat.zero_add, List.range, List.range.loop]; refine GU.value hp _ rfl rfl (by k_ne) (fun _ => by go_simp <;> rfl) (fun _ => by simp [go_sem, *]) ?_; walk_nrm)
  (refine GU.call hp rfl rfl (by k_ne) rfl Try.func8 nm8 rfl ?_; walk_nrmf Try.f8)
  (refine GU.ctl hp rfl (fun _ => stepG_seq) ?_; refine GU.ctl hp rfl (fun _ => stepG_cond (t := true) rfl) ?_; simp only [if_true, if_false, Bool.false_eq_true, ↓reduceIte]; (iterate 2 (refine GU.ctl hp rfl (fun _ => stepG_seq) ?_)); refine GU.ctl hp rfl (fun _ => stepG_region) ?_; simp only [List.size_toArray, List.length_cons, List.length_nil, Nat.reduceAdd, Nat.zero_add, List.range, List.range.loop]; (iterate 2 (refine GU.value hp _ rfl rfl (by k_ne) (fun _ => by go_simp <;> rfl) (fun _ => by simp [go_sem, *]) ?_; walk_nrm)); refine GU.ctl hp rfl (fun _ => stepG_region_end) ?_; refine GU.ctl hp rfl (fun _ => stepG_cond (t := true) rfl) ?_; simp only [if_true, if_false, Bool.false_eq_true, ↓reduceIte]; refine GU.ctl hp rfl (fun _ => stepG_region) ?_; simp only [List.size_toArray, List.length_cons, List.length_nil, Nat.reduceAdd, Nat.zero_add, List.range, List.range.loop]; refine GU.value hp _ rfl rfl (by k_ne) (fun _ => by go_simp <;> rfl) (fun _ => by simp [go_sem, *]) ?_; walk_nrm)
  refine GU.conv hp rfl rfl (by k_ne) rfl rfl u59 u61 z55 (fun w hw => by obtain ⟨x, hx⟩ := hcg w hw; exact ⟨_, hx⟩) ?_
  walk_nrm
  -- STOP wr
  refine stopW K rfl rfl rfl (by simp) (by simp) (fun w s hw hs hf => ⟨⟨.wk, 0, b, i, old, aw, sv, it, r, bx, m⟩, 0, s, _, _, _, by simp [Step], Nat.zero_le _, sRelMerge (ad := ⟨c.Wg, 0, none⟩) rfl rfl (by k_ne) rfl (by simp [Act.eval]), hs, Eff.refl _ _ _, rfl, by simp [EvW, mkE, stA], by simp, ?_⟩)
  clear hw hs hf
  refine ⟨rfl, fun j2 hj2 => ?_⟩
  walk_nrm
  (refine GU.ctl hp rfl (fun _ => stepG_region_end) ?_; refine GU.ctl hp rfl (fun _ => stepG_seq) ?_; refine GU.ctl hp rfl (fun _ => stepG_region) ?_; simp only [List.size_toArray, List.length_cons, List.length_nil, Nat.reduceAdd, Nat.zero_add, List.range, List.range.loop])
  -- STOP wk
  refine stopW K rfl rfl rfl (by simp) (by simp) (fun w s hw hs hf => ⟨⟨.d1, 0, b, i, old, aw, sv, it, r, bx, m⟩, 0, s, _, _, _, by simp [Step], Nat.zero_le _, sDisable rfl rfl (by k_ne) rfl, hs, Eff.refl _ _ _, rfl, by simp [EvW, mkE], by simp, ?_⟩)
  clear hw hs hf
  refine ⟨rfl, fun j3 hj3 => ?_⟩
  walk_nrm
  (refine GU.ctl hp rfl (fun _ => stepG_region_end) ?_; refine GU.ctl hp rfl (fun _ => stepG_region) ?_; simp only [List.size_toArray, List.length_cons, List.length_nil, Nat.reduceAdd, Nat.zero_add, List.range, List.range.loop])
  (refine GU.ctl hp rfl (fun _ => stepG_defer rfl rfl (by k_ne) rfl) ?_; walk_nrm)
  (refine GU.ctl hp rfl (fun _ => stepG_region_end) ?_; refine GU.ctl hp rfl (fun _ => stepG_seq) ?_; refine GU.ctl hp rfl (fun _ => stepG_region) ?_; simp only [List.size_toArray, List.length_cons, List.length_nil, Nat.reduceAdd, Nat.zero_add, List.range, List.range.loop]; refine GU.value hp _ rfl rfl (by k_ne) (fun _ => by go_simp <;> rfl) (fun _ => by simp [go_sem, *]) ?_; walk_nrm; refine GU.ctl hp rfl (fun _ => stepG_region_end) ?_; (iterate 2 (refine GU.ctl hp rfl (fun _ => stepG_seq) ?_)); refine GU.ctl hp rfl (fun _ => stepG_region) ?_; simp only [List.size_toArray, List.length_cons, List.length_nil, Nat.reduceAdd, Nat.zero_add, List.range, List.range.loop])
  refine GU.entry hp (.bool false) rfl rfl (by k_ne) rfl Try.func17 x17_n x17_b x17_x x17_f ?_
  walk_nrm
  (refine GU.ctl hp rfl (fun _ => stepG_region_end) ?_; refine GU.ctl hp rfl (fun _ => stepG_cond (t := false) rfl) ?_; simp only [if_true, if_false, Bool.false_eq_true, ↓reduceIte]; refine GU.ctl hp rfl (fun _ => stepG_skip) ?_; refine GU.ctl hp rfl (fun _ => stepG_seq) ?_; refine GU.ctl hp rfl (fun _ => stepG_region) ?_; simp only [List.size_toArray, List.length_cons, List.length_nil, Nat.reduceAdd, Nat.zero_add, List.range, List.range.loop]; (iterate 6 (refine GU.value hp _ rfl rfl (by k_ne) (fun _ => by go_simp <;> rfl) (fun _ => by simp [go_sem, *]) ?_; walk_nrm)))
  (refine GU.call hp rfl rfl (by k_ne) rfl Try.func21 nm21 rfl ?_; walk_nrmf Try.f21)
  (refine GU.ctl hp rfl (fun _ => stepG_seq) ?_; refine GU.ctl hp rfl (fun _ => stepG_region) ?_; simp only [List.size_toArray, List.length_cons, List.length_nil, Nat.reduceAdd, Nat.zero_add, List.range, List.range.loop]; refine GU.value hp _ rfl rfl (by k_ne) (fun _ => by go_simp <;> rfl) (fun _ => by simp [go_sem, *]) ?_; walk_nrm; refine GU.ctl hp rfl (fun _ => stepG_region_end) ?_; refine GU.ctl hp rfl (fun _ => stepG_seq) ?_; refine GU.ctl hp rfl (fun _ => stepG_region) ?_; simp only [List.size_toArray, List.length_cons, List.length_nil, Nat.reduceAdd, Nat.zero_add, List.range, List.range.loop]; (iterate 4 (refine GU.value hp _ rfl rfl (by k_ne) (fun _ => by go_simp <;> rfl) (fun _ => by simp [go_sem, *]) ?_; walk_nrm)))
  rw [show IntKind.u64.wrap (IntKind.u64.wrap (-1) * 4294967296) = 18446744069414584320 from by decide]
  -- STOP d1
  refine stopW_quit K rfl rfl rfl (by simp) (by simp) (fun w s hw hs hf => ?_)
  obtain ⟨f1, f2, f3⟩ := hf.d1 rfl
  have hc : w.cell? (stA c.Wg) = some (.int .u64 (wgE s.wv s.ww)) := hs.cSt
  have hset : ShAt 46 55 4 c (w.setCell (stA c.Wg) (.int .u64 (wgE (s.wv - 1) s.ww))) { s with wv := s.wv - 1 } := hs.setSt (s.wv - 1) s.ww
  have hdec := w_dec (a := s.wv) (b := s.ww) (by omega) (by omega) f1
  have ha : s.wv - 1 < 32 := by omega
  have hb : s.ww < 2 := by omega
  by_cases h2 : s.wv = 1 ∧ s.ww = 1
  · refine ⟨⟨.d2, 0, b, i, old, aw, sv, it, r, bx, m⟩, { s with wv := s.wv - 1 }, _, _, _, ⟨by rw [if_pos h2], rfl⟩, rfl, stepG_add_atomic rfl rfl (by k_ne) rfl Try.func39 x39_n x39_b x39_x .u64 x39_f (ad := stA c.Wg) rfl rfl hc (hs.thG _), by rw [hdec]; exact hset, Eff.set _ _ _ _ _ (.inr (.inl rfl)), (aside_setCell _ _ _).size, atm_rw _, .inr ⟨by simp, ?_⟩⟩
    rw [hdec, show s.wv - 1 = 0 from by omega, h2.2]
    clear hw hs hf f1 f2 f3 hc hset hdec ha hb h2
    refine ⟨rfl, fun j4 hj4 => ?_⟩
    walk_nrm
    (refine GU.value hp _ rfl rfl (by k_ne) (fun _ => by go_simp <;> rfl) (fun _ => by simp [go_sem, *]) ?_; walk_nrm; refine GU.ctl hp rfl (fun _ => stepG_region_end) ?_; refine GU.ctl hp rfl (fun _ => stepG_ret') ?_)
    (refine GU.leave1 hp rfl rfl Try.func21 rfl ?_; walk_nrm)
    (refine GU.value hp _ rfl rfl (by k_ne) (fun _ => by go_simp <;> rfl) (fun _ => by simp [go_sem, *]) ?_; walk_nrm; refine GU.ctl hp rfl (fun _ => stepG_region_end) ?_; (iterate 2 (refine GU.ctl hp rfl (fun _ => stepG_seq) ?_)); refine GU.ctl hp rfl (fun _ => stepG_region) ?_; simp only [List.size_toArray, List.length_cons, List.length_nil, Nat.reduceAdd, Nat.zero_add, List.range, List.range.loop]; (iterate 4 (refine GU.value hp _ rfl rfl (by k_ne) (fun _ => by go_simp <;> rfl) (fun _ => by simp [go_sem, *]) ?_; walk_nrm)); (iterate 2 (refine GU.unwanted hp rfl rfl ?_; walk_nrm)); refine GU.value hp _ rfl rfl (by k_ne) (fun _ => by go_simp <;> rfl) (fun _ => by simp [go_sem, *]) ?_; walk_nrm; refine GU.ctl hp rfl (fun _ => stepG_region_end) ?_; refine GU.ctl hp rfl (fun _ => stepG_cond (t := false) rfl) ?_; simp only [if_true, if_false, Bool.false_eq_true, ↓reduceIte]; refine GU.ctl hp rfl (fun _ => stepG_skip) ?_; refine GU.ctl hp rfl (fun _ => stepG_seq) ?_; refine GU.ctl hp rfl (fun _ => stepG_region) ?_; simp only [List.size_toArray, List.length_cons, List.length_nil, Nat.reduceAdd, Nat.zero_add, List.range, List.range.loop]; (iterate 4 (refine GU.value hp _ rfl rfl (by k_ne) (fun _ => by go_simp <;> rfl) (fun _ => by simp [go_sem, *]) ?_; walk_nrm)); refine GU.ctl hp rfl (fun _ => stepG_region_end) ?_; refine GU.ctl hp rfl (fun _ => stepG_seq) ?_; refine GU.ctl hp rfl (fun _ => stepG_region) ?_; simp only [List.size_toArray, List.length_cons, List.length_nil, Nat.reduceAdd, Nat.zero_add, List.range, List.range.loop]; (iterate 4 (refine GU.value hp _ rfl rfl (by k_ne) (fun _ => by go_simp <;> rfl) (fun _ => by simp [go_sem, *]) ?_; walk_nrm)); refine GU.ctl hp rfl (fun _ => stepG_region_end) ?_; (iterate 2 (refine GU.ctl hp rfl (fun _ => stepG_seq) ?_)); refine GU.ctl hp rfl (fun _ => stepG_region) ?_; simp only [List.size_toArray, List.length_cons, List.length_nil, Nat.reduceAdd, Nat.zero_add, List.range, List.range.loop]; (iterate 5 (refine GU.value hp _ rfl rfl (by k_ne) (fun _ => by go_simp <;> rfl) (fun _ => by simp [go_sem, *]) ?_; walk_nrm)); (iterate 4 (refine GU.unwanted hp rfl rfl ?_; walk_nrm)); refine GU.value hp _ rfl rfl (by k_ne) (fun _ => by go_simp <;> rfl) (fun _ => by simp [go_sem, *]) ?_; walk_nrm; refine GU.ctl hp rfl (fun _ => stepG_region_end) ?_; refine GU.ctl hp rfl (fun _ => stepG_cond (t := false) rfl) ?_; simp only [if_true, if_false, Bool.false_eq_true, ↓reduceIte]; refine GU.ctl hp rfl (fun _ => stepG_skip) ?_; (iterate 2 (refine GU.ctl hp rfl (fun _ => stepG_seq) ?_)); refine GU.ctl hp rfl (fun _ => stepG_region) ?_; simp only [List.size_toArray, List.length_cons, List.length_nil, Nat.reduceAdd, Nat.zero_add, List.range, List.range.loop]; (iterate 2 (refine GU.value hp _ rfl rfl (by k_ne) (fun _ => by go_simp <;> rfl) (fun _ => by simp [go_sem, *]) ?_; walk_nrm)); refine GU.ctl hp rfl (fun _ => stepG_region_end) ?_; refine GU.ctl hp rfl (fun _ => stepG_cond (t := false) rfl) ?_; simp only [if_true, if_false, Bool.false_eq_true, ↓reduceIte]; refine GU.ctl hp rfl (fun _ => stepG_skip) ?_; (iterate 2 (refine GU.ctl hp rfl (fun _ => stepG_seq) ?_)); refine GU.ctl hp rfl (fun _ => stepG_region) ?_; simp only [List.size_toArray, List.length_cons, List.length_nil, Nat.reduceAdd, Nat.zero_add, List.range, List.range.loop]; (iterate 7 (refine GU.value hp _ rfl rfl (by k_ne) (fun _ => by go_simp <;> rfl) (fun _ => by simp [go_sem, *]) ?_; walk_nrm)); (iterate 4 (refine GU.unwanted hp rfl rfl ?_; walk_nrm)); refine GU.value hp _ rfl rfl (by k_ne) (fun _ => by go_simp <;> rfl) (fun _ => by simp [go_sem, *]) ?_; walk_nrm; refine GU.ctl hp rfl (fun _ => stepG_region_end) ?_; refine GU.ctl hp rfl (fun _ => stepG_cond (t := false) rfl) ?_; simp only [if_true, if_false, Bool.false_eq_true, ↓reduceIte]; refine GU.ctl hp rfl (fun _ => stepG_skip) ?_; (iterate 2 (refine GU.ctl hp rfl (fun _ => stepG_seq) ?_)); refine GU.ctl hp rfl (fun _ => stepG_region) ?_; simp only [List.size_toArray, List.length_cons, List.length_nil, Nat.reduceAdd, Nat.zero_add, List.range, List.range.loop]; (iterate 6 (refine GU.value hp _ rfl rfl (by k_ne) (fun _ => by go_simp <;> rfl) (fun _ => by simp [go_sem, *]) ?_; walk_nrm)); refine GU.ctl hp rfl (fun _ => stepG_region_end) ?_; refine GU.ctl hp rfl (fun _ => stepG_cond (t := false) rfl) ?_; simp only [if_true, if_false, Bool.false_eq_true, ↓reduceIte]; refine GU.ctl hp rfl (fun _ => stepG_skip) ?_; (iterate 2 (refine GU.ctl hp rfl (fun _ => stepG_seq) ?_)); refine GU.ctl hp rfl (fun _ => stepG_region) ?_; simp only [List.size_toArray, List.length_cons, List.length_nil, Nat.reduceAdd, Nat.zero_add, List.range, List.range.loop]; (iterate 3 (refine GU.value hp _ rfl rfl (by k_ne) (fun _ => by go_simp <;> rfl) (fun _ => by simp [go_sem, *]) ?_; walk_nrm)))
    rw [w_and (by omega) (by omega)]
    skip
    rw [w_lo (by omega) (by omega), w_hi (by omega) (by omega)]
    skip
    (refine GU.call hp rfl rfl (by k_ne) rfl Try.func23 nm23 rfl ?_; walk_nrmf Try.f23)
    (refine GU.ctl hp rfl (fun _ => stepG_seq) ?_; refine GU.ctl hp rfl (fun _ => stepG_region) ?_; simp only [List.size_toArray, List.length_cons, List.length_nil, Nat.reduceAdd, Nat.zero_add, List.range, List.range.loop]; refine GU.value hp _ rfl rfl (by k_ne) (fun _ => by go_simp <;> rfl) (fun _ => by simp [go_sem, *]) ?_; walk_nrm; refine GU.ctl hp rfl (fun _ => stepG_region_end) ?_; refine GU.ctl hp rfl (fun _ => stepG_seq) ?_; refine GU.ctl hp rfl (fun _ => stepG_region) ?_; simp only [List.size_toArray, List.length_cons, List.length_nil, Nat.reduceAdd, Nat.zero_add, List.range, List.range.loop]; (iterate 3 (refine GU.value hp _ rfl rfl (by k_ne) (fun _ => by go_simp <;> rfl) (fun _ => by simp [go_sem, *]) ?_; walk_nrm)))
    -- STOP d2
    refine stopW K rfl rfl rfl (by simp) (by simp) (fun w s hw hs hf => ?_)
    obtain ⟨g1, g2, g3⟩ := hf.d2 (.inl rfl)
    have hc : w.cell? (stA c.Wg) = some (.int .u64 (wgE s.wv s.ww)) := hs.cSt
    refine ⟨⟨.d3, 0, b, i, old, aw, sv, it, r, bx, m⟩, 0, s, _, _, _, by simp [Step], Nat.zero_le _, stepG_load_atomic rfl rfl (by k_ne) rfl Try.func40 x40_n x40_b x40_x .u64 x40_f (ad := stA c.Wg) rfl hc, hs, Eff.refl _ _ _, rfl, atm_r _ _, by simp, ?_⟩
    rw [g1, g2]
    clear hw hs hf g1 g2 g3 hc
    refine ⟨rfl, fun j5 hj5 => ?_⟩
    walk_nrm
    (refine GU.value hp _ rfl rfl (by k_ne) (fun _ => by go_simp <;> rfl) (fun _ => by simp [go_sem, *]) ?_; walk_nrm; refine GU.ctl hp rfl (fun _ => stepG_region_end) ?_; refine GU.ctl hp rfl (fun _ => stepG_ret') ?_)
    (refine GU.leave1 hp rfl rfl Try.func23 rfl ?_; walk_nrm)
    ((iterate 2 (refine GU.value hp _ rfl rfl (by k_ne) (fun _ => by go_simp <;> rfl) (fun _ => by simp [go_sem, *]) ?_; walk_nrm)); refine GU.ctl hp rfl (fun _ => stepG_region_end) ?_; refine GU.ctl hp rfl (fun _ => stepG_cond (t := false) rfl) ?_; simp only [if_true, if_false, Bool.false_eq_true, ↓reduceIte]; refine GU.ctl hp rfl (fun _ => stepG_skip) ?_; refine GU.ctl hp rfl (fun _ => stepG_seq) ?_; refine GU.ctl hp rfl (fun _ => stepG_region) ?_; simp only [List.size_toArray, List.length_cons, List.length_nil, Nat.reduceAdd, Nat.zero_add, List.range, List.range.loop]; (iterate 3 (refine GU.value hp _ rfl rfl (by k_ne) (fun _ => by go_simp <;> rfl) (fun _ => by simp [go_sem, *]) ?_; walk_nrm)))
    (refine GU.call hp rfl rfl (by k_ne) rfl Try.func24 nm24 rfl ?_; walk_nrmf Try.f24)
    (refine GU.ctl hp rfl (fun _ => stepG_region) ?_; simp only [List.size_toArray, List.length_cons, List.length_nil, Nat.reduceAdd, Nat.zero_add, List.range, List.range.loop]; (iterate 4 (refine GU.value hp _ rfl rfl (by k_ne) (fun _ => by go_simp <;> rfl) (fun _ => by simp [go_sem, *]) ?_; walk_nrm)))
    -- STOP d3
    refine stopW K rfl rfl rfl (by simp) (by simp) (fun w s hw hs hf => ?_)
    obtain ⟨g1, g2, g3⟩ := hf.d2 (.inr rfl)
    have hc : w.cell? (stA c.Wg) = some (.int .u64 (wgE s.wv s.ww)) := hs.cSt
    have e : ({ s with ww := 0 } : Sh) = { s with wv := 0, ww := 0 } := by rw [← g1]
    have hset : ShAt 46 55 4 c (w.setCell (stA c.Wg) (.int .u64 0)) { s with ww := 0 } := by rw [e]; exact hs.setSt 0 0
    refine ⟨⟨.d4, 0, b, i, old, aw, sv, it, r, bx, m⟩, 0, { s with ww := 0 }, _, _, _, by simp [Step], Nat.zero_le _, stepG_store_atomic rfl rfl (by k_ne) rfl Try.func41 x41_n x41_b x41_x x41_f (ad := stA c.Wg) rfl rfl hc (hs.thG _), hset, Eff.set _ _ _ _ _ (.inr (.inl rfl)), (aside_setCell _ _ _).size, atm_r _ _, by simp, ?_⟩
    clear hset hc e g1 g2 g3 hw hs hf
    refine ⟨rfl, fun j6 hj6 => ?_⟩
    walk_nrm
    (refine GU.ctl hp rfl (fun _ => stepG_region_end) ?_; refine GU.ctl hp rfl (fun _ => stepG_end) ?_)
    (refine GU.leave0 hp rfl rfl Try.func24 rfl ?_; walk_nrm)
    (refine GU.ctl hp rfl (fun _ => stepG_region_end) ?_; (iterate 2 (refine GU.ctl hp rfl (fun _ => stepG_seq) ?_)); refine GU.ctl hp rfl (fun _ => stepG_region) ?_; simp only [List.size_toArray, List.length_cons, List.length_nil, Nat.reduceAdd, Nat.zero_add, List.range, List.range.loop]; refine GU.value hp _ rfl rfl (by k_ne) (fun _ => by go_simp <;> rfl) (fun _ => by simp [go_sem, *]) ?_; walk_nrm; refine GU.ctl hp rfl (fun _ => stepG_region_end) ?_; refine GU.ctl hp rfl (fun _ => stepG_cond (t := false) rfl) ?_; simp only [if_true, if_false, Bool.false_eq_true, ↓reduceIte]; refine GU.ctl hp rfl (fun _ => stepG_skip) ?_; refine GU.ctl hp rfl (fun _ => stepG_block) ?_)
    refine GU.ctl hp rfl (fun _ => stepG_loop) ?_
    ((iterate 2 (refine GU.ctl hp rfl (fun _ => stepG_seq) ?_)); refine GU.ctl hp rfl (fun _ => stepG_region) ?_; simp only [List.size_toArray, List.length_cons, List.length_nil, Nat.reduceAdd, Nat.zero_add, List.range, List.range.loop]; (iterate 2 (refine GU.value hp _ rfl rfl (by k_ne) (fun _ => by go_simp <;> rfl) (fun _ => by simp [go_sem, *]) ?_; walk_nrm)); refine GU.ctl hp rfl (fun _ => stepG_region_end) ?_; refine GU.ctl hp rfl (fun _ => stepG_cond (t := true) rfl) ?_; simp only [if_true, if_false, Bool.false_eq_true, ↓reduceIte]; refine GU.ctl hp rfl (fun _ => stepG_skip) ?_; refine GU.ctl hp rfl (fun _ => stepG_seq) ?_; refine GU.ctl hp rfl (fun _ => stepG_block) ?_; refine GU.ctl hp rfl (fun _ => stepG_region) ?_; simp only [List.size_toArray, List.length_cons, List.length_nil, Nat.reduceAdd, Nat.zero_add, List.range, List.range.loop]; (iterate 3 (refine GU.value hp _ rfl rfl (by k_ne) (fun _ => by go_simp <;> rfl) (fun _ => by simp [go_sem, *]) ?_; walk_nrm)))
    rw [show (((1 : Nat) : Int) != 0) = true from by decide]
    skip
    -- STOP d4
    refine stopW_quit K rfl rfl rfl (by simp) (fun _ => Go.ConcR.Gen.mayWake_entry rfl rfl Try.func26 x26_b) (fun w s hw hs hf => ?_)
    obtain ⟨g1, g2, g3⟩ := hf.d4 rfl
    have hset := hs.setSm (s.ws + 1)
    have e1 : IntKind.u32.wrap ((s.ws : Int) + 1) = ((s.ws + 1 : Nat) : Int) := by rw [IntKind.wrap_u32]; omega
    refine ⟨⟨.quit, 0, b, i, old, aw, sv, it, r, bx, m⟩, { s with ws := s.ws + 1 }, _, _, _, by simp [Step], rfl, stepG_semrelease rfl rfl (by k_ne) rfl Try.func26 x26_n x26_b x26_x x26_f (ad := smA c.Wg) (by simp [Act.eval, smA]) hs.cSm (hs.thG _), by rw [e1]; exact hset, Eff.set _ _ _ _ _ (.inr (.inl rfl)), (aside_setCell _ _ _).size, rfl, .inl ⟨rfl, qt + 300, ?_⟩⟩
    clear hset e1 g1 g2 g3 hw hs hf
    walk_nrm
    repeat (q_go; try q_fix)
    (refine QuitsD.unwind_mark .enable rfl (by simp) rfl Try.func16 x16_n x16_b x16_x x16_f ?_; simp only [Go.ConcR.Gen.deafBehind_enable1]; q_leave0 Try.func8; (repeat q_go); exact quitsD_le (by omega) (QuitsD.leaveD rfl rfl Try.func10 rfl hcF hT))
  · have hq : 0 < s.wv - 1 ∨ s.ww = 0 := by omega
    refine ⟨⟨.quit, 0, b, i, old, aw, sv, it, r, bx, m⟩, { s with wv := s.wv - 1 }, _, _, _, ⟨by rw [if_neg h2], rfl⟩, rfl, stepG_add_atomic rfl rfl (by k_ne) rfl Try.func39 x39_n x39_b x39_x .u64 x39_f (ad := stA c.Wg) rfl rfl hc (hs.thG _), by rw [hdec]; exact hset, Eff.set _ _ _ _ _ (.inr (.inl rfl)), (aside_setCell _ _ _).size, atm_rw _, .inl ⟨rfl, qt + 300, ?_⟩⟩
    rw [hdec]
    generalize s.wv - 1 = a at *
    generalize s.ww = b0 at *
    clear hw hs hf f1 f2 f3 hc hset hdec h2
    walk_nrm
    repeat q_go
    q_leave1 Try.func21
    repeat q_go
    rw [w_and ha hb]
    repeat q_go
    rw [w_lo ha hb, w_hi ha hb]
    repeat q_go
    rcases Nat.eq_zero_or_pos a with rfl | hpos
    · obtain rfl : b0 = 0 := by omega
      repeat q_go
      (refine QuitsD.unwind_mark .enable rfl (by simp) rfl Try.func16 x16_n x16_b x16_x x16_f ?_; simp only [Go.ConcR.Gen.deafBehind_enable1]; q_leave0 Try.func8; (repeat q_go); exact quitsD_le (by omega) (QuitsD.leaveD rfl rfl Try.func10 rfl hcF hT))
    · obtain rfl | rfl : b0 = 0 ∨ b0 = 1 := by omega
      · repeat q_go
        (refine QuitsD.unwind_mark .enable rfl (by simp) rfl Try.func16 x16_n x16_b x16_x x16_f ?_; simp only [Go.ConcR.Gen.deafBehind_enable1]; q_leave0 Try.func8; (repeat q_go); exact quitsD_le (by omega) (QuitsD.leaveD rfl rfl Try.func10 rfl hcF hT))
      · repeat q_go
        (refine QuitsD.unwind_mark .enable rfl (by simp) rfl Try.func16 x16_n x16_b x16_x x16_f ?_; simp only [Go.ConcR.Gen.deafBehind_enable1]; q_leave0 Try.func8; (repeat q_go); exact quitsD_le (by omega) (QuitsD.leaveD rfl rfl Try.func10 rfl hcF hT))
end
end Go.Proofs.Ytnlopklbbajlbaa.Sw
